/-
  The functions, as they are over abstract values. Printed by gen.py.
-/
import Derived.Test.YtncablokgkejjaaRuF
import Derived.Test.YtncablokgkejjaaRrF
import Derived.Test.YtncablokgkejjaaLoF
set_option linter.unusedVariables false
namespace Go.Abs
noncomputable section
namespace law08_small
def C : Tab := Tab.none
@[simp] def r0 (fr : AFr) (H : AHeap) : ARes :=
 areg (o' (abox T.ty_bautalaw08_Case (fr 0) H) ⟨fun v1 H =>
 o' (aallocR T.ty_bautalaw08_Case (some (.agg [.nils, .nils, .nils])) H) ⟨fun v2 H =>
 e' [(1, v1), (2, v2)] H⟩⟩)
@[simp] def r1 (fr : AFr) (H : AHeap) : ARes :=
 areg (q' (fa' 0 (fr 1)) H ⟨fun v3 H =>
 q' (ld' v3 H) H ⟨fun v4 H =>
 q' (alenR .sl v4) H ⟨fun v5 H =>
 q' (bn' .gtr v5 (.int .i64 100)) H ⟨fun v6 H =>
 e' [(1, fr 1), (2, fr 2), (6, v6)] H⟩⟩⟩⟩)
@[simp] def r2 (fr : AFr) (H : AHeap) : ARes :=
 areg (q' (fa' 0 (fr 1)) H ⟨fun v7 H =>
 q' (ld' v7 H) H ⟨fun v8 H =>
 q' (asliceR (.sl 1) v8 none (some (.int .i64 100)) none) H ⟨fun v9 H =>
 q' (fa' 0 (fr 1)) H ⟨fun v10 H =>
 w' (astoreR (some 1) v10 v9 H) ⟨fun _ H =>
 e' [(1, fr 1), (2, fr 2)] H⟩⟩⟩⟩⟩)
@[simp] def r3 (fr : AFr) (H : AHeap) : ARes :=
 areg (q' (fa' 1 (fr 1)) H ⟨fun v11 H =>
 q' (ld' v11 H) H ⟨fun v12 H =>
 q' (alenR .sl v12) H ⟨fun v13 H =>
 q' (bn' .gtr v13 (.int .i64 30)) H ⟨fun v14 H =>
 e' [(1, fr 1), (2, fr 2), (14, v14)] H⟩⟩⟩⟩)
@[simp] def r4 (fr : AFr) (H : AHeap) : ARes :=
 areg (q' (fa' 1 (fr 1)) H ⟨fun v15 H =>
 q' (ld' v15 H) H ⟨fun v16 H =>
 q' (asliceR (.sl 1) v16 none (some (.int .i64 30)) none) H ⟨fun v17 H =>
 q' (fa' 1 (fr 1)) H ⟨fun v18 H =>
 w' (astoreR (some 1) v18 v17 H) ⟨fun _ H =>
 e' [(1, fr 1), (2, fr 2)] H⟩⟩⟩⟩⟩)
@[simp] def r5 (fr : AFr) (H : AHeap) : ARes :=
 areg (q' (fa' 2 (fr 1)) H ⟨fun v19 H =>
 q' (ld' v19 H) H ⟨fun v20 H =>
 q' (alenR .sl v20) H ⟨fun v21 H =>
 q' (bn' .gtr v21 (.int .i64 50)) H ⟨fun v22 H =>
 e' [(1, fr 1), (2, fr 2), (22, v22)] H⟩⟩⟩⟩)
@[simp] def r6 (fr : AFr) (H : AHeap) : ARes :=
 areg (q' (fa' 2 (fr 1)) H ⟨fun v23 H =>
 q' (ld' v23 H) H ⟨fun v24 H =>
 q' (asliceR (.sl 1) v24 none (some (.int .i64 50)) none) H ⟨fun v25 H =>
 q' (fa' 2 (fr 1)) H ⟨fun v26 H =>
 w' (astoreR (some 1) v26 v25 H) ⟨fun _ H =>
 e' [(1, fr 1), (2, fr 2)] H⟩⟩⟩⟩⟩)
@[simp] def r7 (fr : AFr) (H : AHeap) : ARes :=
 areg (o' (abuildSliceR (some ⟨T.ty_uint16, 1, 2, [(W16 0#16)]⟩) 0 [] H) ⟨fun v27 H1 =>
 q' (fa' 0 (fr 1)) H1 ⟨fun v28 H2 =>
 q' (ld' v28 H2) H2 ⟨fun v29 H3 =>
 o' (aappendR (some ⟨T.ty_uint16, 1, 2, [(W16 0#16)]⟩) v27 v29 H3) ⟨fun v30 H4 =>
 o' (abuildSliceR (some ⟨T.ty_uint32, 1, 4, [(W32 0#32)]⟩) 0 [] H4) ⟨fun v31 H5 =>
 q' (fa' 1 (fr 1)) H5 ⟨fun v32 H6 =>
 q' (ld' v32 H6) H6 ⟨fun v33 H7 =>
 o' (aappendR (some ⟨T.ty_uint32, 1, 4, [(W32 0#32)]⟩) v31 v33 H7) ⟨fun v34 H8 =>
 o' (abuildSliceR (some ⟨T.ty_uint32, 1, 4, [(W32 0#32)]⟩) 0 [] H8) ⟨fun v35 H9 =>
 q' (fa' 2 (fr 1)) H9 ⟨fun v36 H10 =>
 q' (ld' v36 H10) H10 ⟨fun v37 H11 =>
 o' (aappendR (some ⟨T.ty_uint32, 1, 4, [(W32 0#32)]⟩) v35 v37 H11) ⟨fun v38 H12 =>
 q' (abuildR (.str [.nils, .nils, .nils] [(0, 1), (1, 1), (2, 1)]) [(0, v30), (1, v34), (2, v38)]) H12 ⟨fun v39 H13 =>
 w' (astoreR (some 3) (fr 2) v39 H13) ⟨fun _ H14 =>
 withChk [aloadR (some none) v32 H3 = aloadR (some none) v32 H4, aloadR (some none) v36 H3 = aloadR (some none) v36 H4, aloadR (some none) v36 H7 = aloadR (some none) v36 H8] (e' [(2, fr 2)] H14)⟩⟩⟩⟩⟩⟩⟩⟩⟩⟩⟩⟩⟩⟩)
@[simp] def body (fr : AFr) (H : AHeap) : ARes :=
  s' (r0 fr H) ⟨fun fr H =>
 s' (s' (r1 fr H) ⟨fun fr H =>
 c' (fr 6)
 ⟨r2 fr H⟩
 ⟨some (.normal, fr, H)⟩⟩) ⟨fun fr H =>
 s' (s' (r3 fr H) ⟨fun fr H =>
 c' (fr 14)
 ⟨r4 fr H⟩
 ⟨some (.normal, fr, H)⟩⟩) ⟨fun fr H =>
 s' (s' (r5 fr H) ⟨fun fr H =>
 c' (fr 22)
 ⟨r6 fr H⟩
 ⟨some (.normal, fr, H)⟩⟩) ⟨fun fr H =>
 s' (r7 fr H) ⟨fun fr H =>
 some (.ret, fr, H)⟩⟩⟩⟩⟩
@[simp] def res (fr : AFr) (H : AHeap) : Option (List AV) := res2 (aloadR (some (some 3)) (fr 2) H) (some [])
end law08_small
def law08_small (a0 : AV) : Option AV := closeUpR (some [[some 1, some 1, some 1]]) (afinR law08_small.res (law08_small.body (args0 [a0]) AHeap.empty))
def law08_small.spec : List AV → Option AV
  | [a0] => law08_small a0
  | _ => none
namespace law08_few
def C : Tab := Tab.none
@[simp] def r0 (fr : AFr) (H : AHeap) : ARes :=
 areg (e' [(0, fr 0)] H)
@[simp] def r1 (fr : AFr) (H : AHeap) : ARes :=
 areg (q' (bn' .gtr (fr 0) (.int .i64 300)) H ⟨fun v4 H =>
 e' [(0, fr 0), (4, v4)] H⟩)
@[simp] def r2 (fr : AFr) (H : AHeap) : ARes :=
 areg (e' [(2, (.int .i64 300))] H)
@[simp] def r3 (fr : AFr) (H : AHeap) : ARes :=
 areg (e' [(2, (fr 0))] H)
@[simp] def body (fr : AFr) (H : AHeap) : ARes :=
  s' (r0 fr H) ⟨fun fr H =>
 s' (s' (r1 fr H) ⟨fun fr H =>
 c' (fr 4)
 ⟨s' (r2 fr H) ⟨fun fr H =>
 some (.ret, fr, H)⟩⟩
 ⟨some (.normal, fr, H)⟩⟩) ⟨fun fr H =>
 s' (r3 fr H) ⟨fun fr H =>
 some (.ret, fr, H)⟩⟩⟩
@[simp] def res (fr : AFr) (H : AHeap) : Option (List AV) := res2 (some (fr 2)) (some [])
end law08_few
def law08_few (a0 : AV) : Option AV := closeUpR (some [[none]]) (afinR law08_few.res (law08_few.body (args0 [a0]) AHeap.empty))
def law08_few.spec : List AV → Option AV
  | [a0] => law08_few a0
  | _ => none
namespace law08_lives
def C (s0 : SpecP) : Tab := (Tab.none.add 39 (.pure false s0))
@[simp] def r0 (fr : AFr) (H : AHeap) : ARes :=
 areg (e' [] H)
@[simp] def r1 (s0 : SpecP) (fr : AFr) (H : AHeap) : ARes :=
 areg (o' (abuildSliceR (some ⟨T.ty_uint16, 1, 2, [(W16 0#16)]⟩) 2 [(0, (W16 8193#16)), (1, (W16 48640#16))] H) ⟨fun v2 H =>
 o' (abuildSliceR (some ⟨T.ty_uint32, 1, 4, [(W32 0#32)]⟩) 1 [(0, (W32 9#32))] H) ⟨fun v3 H =>
 o' (callP false s0 [[some 1], [some 1], [some 1], [none]] [v2, v3, .nils, (.int .i64 10)] H) ⟨fun v4 H =>
 o' (aallocR T.ty_api_Outcome (some (.agg [(.int .i64 0), (.int .i64 0), (.int .i64 0), .nils, .nils])) H) ⟨fun v1 H =>
 w' (astoreR (some 5) v1 v4 H) ⟨fun _ H =>
 e' [(1, v1)] H⟩⟩⟩⟩⟩)
@[simp] def r2 (fr : AFr) (H : AHeap) : ARes :=
 areg (q' (fa' 0 (fr 1)) H ⟨fun v5 H =>
 q' (ld' v5 H) H ⟨fun v6 H =>
 q' (bn' .eql v6 (.int .i64 2)) H ⟨fun v7 H =>
 G' v7 true ⟨fa' 2 (fr 1)⟩ H ⟨fun v9 H =>
 G' v7 true ⟨ld' v9 H⟩ H ⟨fun v10 H =>
 G' v7 true ⟨bn' .eql v10 (.int .i64 0)⟩ H ⟨fun v11 H =>
 q' (apick v7 v11 (.bool false)) H ⟨fun v12 H =>
 G' v12 true ⟨fa' 4 (fr 1)⟩ H ⟨fun v14 H =>
 G' v12 true ⟨ld' v14 H⟩ H ⟨fun v15 H =>
 G' v12 true ⟨alenR .sl v15⟩ H ⟨fun v16 H =>
 G' v12 true ⟨bn' .eql v16 (.int .i64 2)⟩ H ⟨fun v17 H =>
 q' (apick v12 v17 (.bool false)) H ⟨fun v18 H =>
 G' v18 true ⟨fa' 3 (fr 1)⟩ H ⟨fun v20 H =>
 G' v18 true ⟨ld' v20 H⟩ H ⟨fun v21 H =>
 G' v18 true ⟨alenR .sl v21⟩ H ⟨fun v22 H =>
 G' v18 true ⟨bn' .eql v22 (.int .i64 1)⟩ H ⟨fun v23 H =>
 q' (apick v18 v23 (.bool false)) H ⟨fun v24 H =>
 G' v24 true ⟨fa' 3 (fr 1)⟩ H ⟨fun v26 H =>
 G' v24 true ⟨ld' v26 H⟩ H ⟨fun v27 H =>
 G' v24 true ⟨aindexAddrR (.sl 1) v27 (.int .i64 0)⟩ H ⟨fun v28 H =>
 G' v24 true ⟨ld' v28 H⟩ H ⟨fun v29 H =>
 G' v24 true ⟨bn' .eql v29 (W32 9#32)⟩ H ⟨fun v30 H =>
 q' (apick v24 v30 (.bool false)) H ⟨fun v31 H =>
 e' [(0, v31)] H⟩⟩⟩⟩⟩⟩⟩⟩⟩⟩⟩⟩⟩⟩⟩⟩⟩⟩⟩⟩⟩⟩⟩)
@[simp] def body (s0 : SpecP) (fr : AFr) (H : AHeap) : ARes :=
  s' (r0 fr H) ⟨fun fr H =>
 s' (r1 s0 fr H) ⟨fun fr H =>
 s' (r2 fr H) ⟨fun fr H =>
 some (.ret, fr, H)⟩⟩⟩
@[simp] def res (fr : AFr) (H : AHeap) : Option (List AV) := res2 (some (fr 0)) (some [])
end law08_lives
def law08_lives : Option AV := closeUpR (some [[none]]) (afinR law08_lives.res (law08_lives.body run_Exec.spec (args0 []) AHeap.empty))
def law08_lives.spec : List AV → Option AV
  | [] => law08_lives
  | _ => none
namespace law08_RunTape
@[simp] def r0 (fr : AFr) (H : AHeap) : ARes :=
 areg (o' (abox T.ty_bautalaw08_Case (fr 0) H) ⟨fun v2 H =>
 e' [(1, fr 1), (2, v2)] H⟩)
@[simp] def r1 (s0 : SpecP) (fr : AFr) (H : AHeap) : ARes :=
 areg (q' (Ld' 3 (fr 2) H) H ⟨fun v7 H =>
 o' (callP false s0 [[some 1, some 1, some 1]] [v7] H) ⟨fun v8 H =>
 w' (astoreR (some 3) (fr 2) v8 H) ⟨fun _ H =>
 e' [(1, fr 1), (2, fr 2)] H⟩⟩⟩)
@[simp] def r2 (fr : AFr) (H : AHeap) : ARes :=
 areg (q' (alenR .sl (fr 1)) H ⟨fun v10 H =>
 q' (bn' .gtr v10 (.int .i64 50)) H ⟨fun v11 H =>
 e' [(1, fr 1), (2, fr 2), (11, v11)] H⟩⟩)
@[simp] def r3 (fr : AFr) (H : AHeap) : ARes :=
 areg (q' (asliceR (.sl 1) (fr 1) none (some (.int .i64 50)) none) H ⟨fun v13 H =>
 e' [(1, v13), (2, fr 2)] H⟩)
@[simp] def r4 (s1 : SpecP) (fr : AFr) (H : AHeap) : ARes :=
 areg (q' (fa' 0 (fr 2)) H ⟨fun v14 H =>
 q' (ld' v14 H) H ⟨fun v15 H =>
 q' (fa' 1 (fr 2)) H ⟨fun v16 H =>
 q' (ld' v16 H) H ⟨fun v17 H =>
 q' (fa' 2 (fr 2)) H ⟨fun v18 H =>
 q' (ld' v18 H) H ⟨fun v19 H =>
 o' (callP false s1 [[some 1], [some 1], [some 1], [none]] [v15, v17, v19, (.int .i64 200)] H) ⟨fun v20 H =>
 o' (aallocR T.ty_api_Outcome (some (.agg [(.int .i64 0), (.int .i64 0), (.int .i64 0), .nils, .nils])) H) ⟨fun v5 H =>
 w' (astoreR (some 5) v5 v20 H) ⟨fun _ H =>
 e' [(1, fr 1), (2, fr 2), (5, v5)] H⟩⟩⟩⟩⟩⟩⟩⟩⟩)
@[simp] def r5 (s1 : SpecP) (fr : AFr) (H : AHeap) : ARes :=
 areg (q' (fa' 0 (fr 2)) H ⟨fun v21 H1 =>
 q' (ld' v21 H1) H1 ⟨fun v22 H2 =>
 q' (fa' 1 (fr 2)) H2 ⟨fun v23 H3 =>
 q' (ld' v23 H3) H3 ⟨fun v24 H4 =>
 o' (abuildSliceR (some ⟨T.ty_uint32, 1, 4, [(W32 0#32)]⟩) 0 [] H4) ⟨fun v25 H5 =>
 q' (fa' 2 (fr 2)) H5 ⟨fun v26 H6 =>
 q' (ld' v26 H6) H6 ⟨fun v27 H7 =>
 o' (aappendR (some ⟨T.ty_uint32, 1, 4, [(W32 0#32)]⟩) v25 v27 H7) ⟨fun v28 H8 =>
 q' (some (fr 1)) H8 ⟨fun v29 H9 =>
 o' (aappendR (some ⟨T.ty_uint32, 1, 4, [(W32 0#32)]⟩) v28 v29 H9) ⟨fun v30 H10 =>
 o' (callP false s1 [[some 1], [some 1], [some 1], [none]] [v22, v24, v30, (.int .i64 200)] H10) ⟨fun v31 H11 =>
 o' (aallocR T.ty_api_Outcome (some (.agg [(.int .i64 0), (.int .i64 0), (.int .i64 0), .nils, .nils])) H11) ⟨fun v6 H12 =>
 w' (astoreR (some 5) v6 v31 H12) ⟨fun _ H13 =>
 withChk [aloadR (some none) v21 H7 = aloadR (some none) v21 H8, aloadR (some none) v21 H9 = aloadR (some none) v21 H10, aloadR (some none) v23 H7 = aloadR (some none) v23 H8, aloadR (some none) v23 H9 = aloadR (some none) v23 H10] (e' [(5, fr 5), (6, v6)] H13)⟩⟩⟩⟩⟩⟩⟩⟩⟩⟩⟩⟩⟩)
@[simp] def r6 (fr : AFr) (H : AHeap) : ARes :=
 areg (q' (fa' 2 (fr 5)) H ⟨fun v32 H =>
 q' (ld' v32 H) H ⟨fun v33 H =>
 q' (bn' .eql v33 (.int .i64 51)) H ⟨fun v34 H =>
 e' [(5, fr 5), (6, fr 6), (34, v34)] H⟩⟩⟩)
@[simp] def r7 (s2 : SpecP) (fr : AFr) (H : AHeap) : ARes :=
 areg (q' (fa' 0 (fr 6)) H ⟨fun v35 H =>
 q' (ld' v35 H) H ⟨fun v36 H =>
 q' (fa' 0 (fr 5)) H ⟨fun v37 H =>
 q' (ld' v37 H) H ⟨fun v38 H =>
 q' (bn' .geq v36 v38) H ⟨fun v39 H =>
 o' (g' (gw v39 true) ⟨callP false s2 [] [] H⟩ H) ⟨fun v41 H =>
 q' (apick v39 v41 (.bool false)) H ⟨fun v42 H =>
 e' [(4, v42)] H⟩⟩⟩⟩⟩⟩⟩)
@[simp] def r8 (s2 s3 : SpecP) (fr : AFr) (H : AHeap) : ARes :=
 areg (q' (Ld' 5 (fr 5) H) H ⟨fun v43 H =>
 q' (Ld' 5 (fr 6) H) H ⟨fun v44 H =>
 o' (callP false s3 [[none, none, none, some 1, some 10], [none, none, none, some 1, some 10]] [v43, v44] H) ⟨fun v45 H =>
 o' (g' (gw v45 true) ⟨callP false s2 [] [] H⟩ H) ⟨fun v47 H =>
 q' (apick v45 v47 (.bool false)) H ⟨fun v48 H =>
 e' [(4, v48)] H⟩⟩⟩⟩⟩)
@[simp] def body (s0 s1 s2 s3 : SpecP) (fr : AFr) (H : AHeap) : ARes :=
  s' (r0 fr H) ⟨fun fr H =>
 s' (r1 s0 fr H) ⟨fun fr H =>
 s' (s' (r2 fr H) ⟨fun fr H =>
 c' (fr 11)
 ⟨r3 fr H⟩
 ⟨some (.normal, fr, H)⟩⟩) ⟨fun fr H =>
 s' (r4 s1 fr H) ⟨fun fr H =>
 s' (r5 s1 fr H) ⟨fun fr H =>
 s' (s' (r6 fr H) ⟨fun fr H =>
 c' (fr 34)
 ⟨s' (r7 s2 fr H) ⟨fun fr H =>
 some (.ret, fr, H)⟩⟩
 ⟨some (.normal, fr, H)⟩⟩) ⟨fun fr H =>
 s' (r8 s2 s3 fr H) ⟨fun fr H =>
 some (.ret, fr, H)⟩⟩⟩⟩⟩⟩⟩
@[simp] def res (fr : AFr) (H : AHeap) : Option (List AV) := res2 (some (fr 4)) (some [])
end law08_RunTape
def law08_RunTape (a0 a1 : AV) : Option AV := closeUpR (some [[none]]) (afinR law08_RunTape.res (law08_RunTape.body law08_small.spec run_Exec.spec law08_lives.spec ref08_Same.spec (args0 [a0, a1]) AHeap.empty))
def law08_RunTape.spec : List AV → Option AV
  | [a0, a1] => law08_RunTape a0 a1
  | _ => none
namespace law08_RunExecs
def C (s0 s1 s2 s3 s4 s5 s6 : SpecP) : Tab := (((((((Tab.none.add 37 (.pure false s0)).add 38 (.pure false s1)).add 39 (.pure false s2)).add 42 (.pure false s3)).add 43 (.pure false s4)).add 40 (.pure false s5)).add 41 (.pure false s6))
@[simp] def r0 (fr : AFr) (H : AHeap) : ARes :=
 areg (o' (abox T.ty_bautalaw08_Case (fr 0) H) ⟨fun v2 H =>
 e' [(1, fr 1), (2, v2)] H⟩)
@[simp] def r1 (s0 s1 : SpecP) (fr : AFr) (H : AHeap) : ARes :=
 areg (q' (Ld' 3 (fr 2) H) H ⟨fun v8 H =>
 o' (callP false s0 [[some 1, some 1, some 1]] [v8] H) ⟨fun v9 H =>
 o' (callP false s1 [[none]] [(fr 1)] H) ⟨fun v11 H =>
 w' (astoreR (some 3) (fr 2) v9 H) ⟨fun _ H =>
 e' [(1, v11), (2, fr 2)] H⟩⟩⟩⟩)
@[simp] def r2 (s2 s3 : SpecP) (fr : AFr) (H : AHeap) : ARes :=
 areg (q' (fa' 0 (fr 2)) H ⟨fun v12 H1 =>
 q' (ld' v12 H1) H1 ⟨fun v13 H2 =>
 q' (fa' 1 (fr 2)) H2 ⟨fun v14 H3 =>
 q' (ld' v14 H3) H3 ⟨fun v15 H4 =>
 q' (fa' 2 (fr 2)) H4 ⟨fun v16 H5 =>
 q' (ld' v16 H5) H5 ⟨fun v17 H6 =>
 q' (some (fr 1)) H6 ⟨fun v18 H7 =>
 o' (callP false s2 [[some 1], [some 1], [some 1], [none]] [v13, v15, v17, v18] H7) ⟨fun v19 H8 =>
 q' (fa' 0 (fr 2)) H8 ⟨fun v20 H9 =>
 q' (ld' v20 H9) H9 ⟨fun v21 H10 =>
 q' (fa' 1 (fr 2)) H10 ⟨fun v22 H11 =>
 q' (ld' v22 H11) H11 ⟨fun v23 H12 =>
 q' (fa' 2 (fr 2)) H12 ⟨fun v24 H13 =>
 q' (ld' v24 H13) H13 ⟨fun v25 H14 =>
 q' (some (fr 1)) H14 ⟨fun v26 H15 =>
 o' (callP false s3 [[some 1], [some 1], [some 1], [none]] [v21, v23, v25, v26] H15) ⟨fun v27 H16 =>
 o' (aallocR T.ty_api_Outcome (some (.agg [(.int .i64 0), (.int .i64 0), (.int .i64 0), .nils, .nils])) H16) ⟨fun v5 H17 =>
 o' (aallocR T.ty_api_Outcome (some (.agg [(.int .i64 0), (.int .i64 0), (.int .i64 0), .nils, .nils])) H17) ⟨fun v6 H18 =>
 w' (astoreR (some 5) v5 v19 H18) ⟨fun _ H19 =>
 w' (astoreR (some 5) v6 v27 H19) ⟨fun _ H20 =>
 withChk [aloadR (some none) v20 H7 = aloadR (some none) v20 H8, aloadR (some none) v22 H7 = aloadR (some none) v22 H8, aloadR (some none) v24 H7 = aloadR (some none) v24 H8] (e' [(1, fr 1), (2, fr 2), (5, v5), (6, v6)] H20)⟩⟩⟩⟩⟩⟩⟩⟩⟩⟩⟩⟩⟩⟩⟩⟩⟩⟩⟩⟩)
@[simp] def r3 (s4 : SpecP) (fr : AFr) (H : AHeap) : ARes :=
 areg (q' (fa' 0 (fr 2)) H ⟨fun v28 H =>
 q' (ld' v28 H) H ⟨fun v29 H =>
 q' (fa' 1 (fr 2)) H ⟨fun v30 H =>
 q' (ld' v30 H) H ⟨fun v31 H =>
 q' (fa' 2 (fr 2)) H ⟨fun v32 H =>
 q' (ld' v32 H) H ⟨fun v33 H =>
 o' (callP false s4 [[some 1], [some 1], [some 1], [none]] [v29, v31, v33, (fr 1)] H) ⟨fun v35 H =>
 o' (aallocR T.ty_api_Outcome (some (.agg [(.int .i64 0), (.int .i64 0), (.int .i64 0), .nils, .nils])) H) ⟨fun v7 H =>
 w' (astoreR (some 5) v7 v35 H) ⟨fun _ H =>
 e' [(5, fr 5), (6, fr 6), (7, v7)] H⟩⟩⟩⟩⟩⟩⟩⟩⟩)
@[simp] def r4 (s5 : SpecP) (fr : AFr) (H : AHeap) : ARes :=
 areg (q' (Ld' 5 (fr 5) H) H ⟨fun v36 H =>
 q' (Ld' 5 (fr 6) H) H ⟨fun v37 H =>
 o' (callP false s5 [[none, none, none, some 1, some 10], [none, none, none, some 1, some 10]] [v36, v37] H) ⟨fun v38 H =>
 q' (aun .not v38) H ⟨fun v39 H =>
 G' v39 false ⟨fa' 4 (fr 7)⟩ H ⟨fun v41 H =>
 G' v39 false ⟨ld' v41 H⟩ H ⟨fun v42 H =>
 G' v39 false ⟨alenR .sl v42⟩ H ⟨fun v43 H =>
 G' v39 false ⟨bn' .neq v43 (.int .i64 0)⟩ H ⟨fun v44 H =>
 q' (apick v39 (.bool true) v44) H ⟨fun v45 H =>
 e' [(6, fr 6), (7, fr 7), (45, v45)] H⟩⟩⟩⟩⟩⟩⟩⟩⟩)
@[simp] def r5 (fr : AFr) (H : AHeap) : ARes :=
 areg (e' [(4, (.bool false))] H)
@[simp] def r6 (fr : AFr) (H : AHeap) : ARes :=
 areg (q' (fa' 4 (fr 6)) H ⟨fun v46 H =>
 w' (astoreR (some 1) v46 .nils H) ⟨fun _ H =>
 e' [(6, fr 6), (7, fr 7)] H⟩⟩)
@[simp] def r7 (s5 s6 : SpecP) (fr : AFr) (H : AHeap) : ARes :=
 areg (q' (Ld' 5 (fr 7) H) H ⟨fun v47 H =>
 q' (Ld' 5 (fr 6) H) H ⟨fun v48 H =>
 o' (callP false s5 [[none, none, none, some 1, some 10], [none, none, none, some 1, some 10]] [v47, v48] H) ⟨fun v49 H =>
 o' (g' (gw v49 true) ⟨callP false s6 [] [] H⟩ H) ⟨fun v51 H =>
 q' (apick v49 v51 (.bool false)) H ⟨fun v52 H =>
 e' [(4, v52)] H⟩⟩⟩⟩⟩)
@[simp] def body (s0 s1 s2 s3 s4 s5 s6 : SpecP) (fr : AFr) (H : AHeap) : ARes :=
  s' (r0 fr H) ⟨fun fr H =>
 s' (r1 s0 s1 fr H) ⟨fun fr H =>
 s' (r2 s2 s3 fr H) ⟨fun fr H =>
 s' (r3 s4 fr H) ⟨fun fr H =>
 s' (s' (r4 s5 fr H) ⟨fun fr H =>
 c' (fr 45)
 ⟨s' (r5 fr H) ⟨fun fr H =>
 some (.ret, fr, H)⟩⟩
 ⟨some (.normal, fr, H)⟩⟩) ⟨fun fr H =>
 s' (r6 fr H) ⟨fun fr H =>
 s' (r7 s5 s6 fr H) ⟨fun fr H =>
 some (.ret, fr, H)⟩⟩⟩⟩⟩⟩⟩
@[simp] def res (fr : AFr) (H : AHeap) : Option (List AV) := res2 (some (fr 4)) (some [])
end law08_RunExecs
def law08_RunExecs (a0 a1 : AV) : Option AV := closeUpR (some [[none]]) (afinR law08_RunExecs.res (law08_RunExecs.body law08_small.spec law08_few.spec run_Exec.spec ref08_Exec.spec run_Quick.spec ref08_Same.spec law08_lives.spec (args0 [a0, a1]) AHeap.empty))
def law08_RunExecs.spec : List AV → Option AV
  | [a0, a1] => law08_RunExecs a0 a1
  | _ => none
end
end Go.Abs
