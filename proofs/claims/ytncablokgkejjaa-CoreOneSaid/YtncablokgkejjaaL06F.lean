/-
  The functions, as they are over abstract values. Printed by gen.py.
-/
import Derived.Test.YtncablokgkejjaaLoF
import Derived.Test.YtncablokgkejjaaCoF
import Derived.Test.YtncablokgkejjaaCrF
set_option linter.unusedVariables false
namespace Go.Abs
noncomputable section
namespace law06_lives
def C (s0 s1 : SpecM) : Tab := ((Tab.none.add 15 (.ref [true, false, true] s0)).add 17 (.ref [true, false] s1))
@[simp] def r0 (fr : AFr) (H : AHeap) : ARes :=
 areg (e' [] H)
@[simp] def r1 (s0 : SpecM) (fr : AFr) (H : AHeap) : ARes :=
 areg (o' (abuildSliceR (some ⟨T.ty_uint16, 1, 2, [(W16 0#16)]⟩) 1 [(0, (W16 12289#16))] H) ⟨fun v5 H =>
 o' (callM [true, false, true] s0 [[some 1], [none], [some 1]] [v5, (.int .i64 1), .nils] H) ⟨fun v6 H =>
 e' [(1, v6)] H⟩⟩)
@[simp] def r2 (s1 : SpecM) (fr : AFr) (H : AHeap) : ARes :=
 areg (q' (abuildR (.arr [(W32 0#32), (W32 0#32), (W32 0#32), (W32 0#32), (W32 0#32), (W32 0#32), (W32 0#32), (W32 0#32)] 1) [(0, (W32 4294967295#32))]) H ⟨fun v8 H =>
 q' (abuildR (.str [(W32 0#32), (W32 0#32), (W32 0#32), (W32 0#32), (W32 0#32), (W32 0#32), (W32 0#32), (W32 0#32), (W32 0#32), (.bool false), (.bool false), (.bool false), (.bool false)] [(0, 8), (8, 1), (9, 1), (10, 1), (11, 1), (12, 1)]) [(0, v8)]) H ⟨fun v9 H =>
 o' (callM [true, false] s1 [[none, none, none, none, none, none, none, none, none, none, none, none, none], [none]] [v9, (fr 1)] H) ⟨fun v11 H =>
 q' (aextract v11 0) H ⟨fun v12 H =>
 q' (aextract v11 1) H ⟨fun v13 H =>
 q' (aextract v11 2) H ⟨fun v14 H =>
 o' (aallocR T.ty_api_State (some (.agg [(W32 0#32), (W32 0#32), (W32 0#32), (W32 0#32), (W32 0#32), (W32 0#32), (W32 0#32), (W32 0#32), (W32 0#32), (.bool false), (.bool false), (.bool false), (.bool false)])) H) ⟨fun v2 H =>
 w' (astoreR (some 13) v2 v12 H) ⟨fun _ H =>
 e' [(2, v2), (3, v13), (4, v14)] H⟩⟩⟩⟩⟩⟩⟩⟩)
@[simp] def r3 (fr : AFr) (H : AHeap) : ARes :=
 areg (q' (fa' 0 (fr 2)) H ⟨fun v15 H =>
 q' (aindexAddrR (.arr 8 1) v15 (.int .i64 0)) H ⟨fun v16 H =>
 q' (ld' v16 H) H ⟨fun v17 H =>
 q' (bn' .eql v17 (W32 0#32)) H ⟨fun v18 H =>
 G' v18 true ⟨fa' 10 (fr 2)⟩ H ⟨fun v20 H =>
 G' v18 true ⟨ld' v20 H⟩ H ⟨fun v21 H =>
 q' (apick v18 v21 (.bool false)) H ⟨fun v22 H =>
 G' v22 true ⟨fa' 11 (fr 2)⟩ H ⟨fun v24 H =>
 G' v22 true ⟨ld' v24 H⟩ H ⟨fun v25 H =>
 q' (apick v22 v25 (.bool false)) H ⟨fun v26 H =>
 G' v26 true ⟨fa' 8 (fr 2)⟩ H ⟨fun v28 H =>
 G' v26 true ⟨ld' v28 H⟩ H ⟨fun v29 H =>
 G' v26 true ⟨bn' .eql v29 (W32 2#32)⟩ H ⟨fun v30 H =>
 q' (apick v26 v30 (.bool false)) H ⟨fun v31 H =>
 G' v31 true ⟨some (fr 3)⟩ H ⟨fun v33 H =>
 G' v31 true ⟨aun .not v33⟩ H ⟨fun v34 H =>
 q' (apick v31 v34 (.bool false)) H ⟨fun v35 H =>
 G' v35 true ⟨some (fr 4)⟩ H ⟨fun v37 H =>
 G' v35 true ⟨bn' .eql v37 (.int .i64 0)⟩ H ⟨fun v38 H =>
 q' (apick v35 v38 (.bool false)) H ⟨fun v39 H =>
 e' [(0, v39)] H⟩⟩⟩⟩⟩⟩⟩⟩⟩⟩⟩⟩⟩⟩⟩⟩⟩⟩⟩⟩)
@[simp] def body (s0 s1 : SpecM) (fr : AFr) (H : AHeap) : ARes :=
  s' (r0 fr H) ⟨fun fr H =>
 s' (r1 s0 fr H) ⟨fun fr H =>
 s' (r2 s1 fr H) ⟨fun fr H =>
 s' (r3 fr H) ⟨fun fr H =>
 some (.ret, fr, H)⟩⟩⟩⟩
@[simp] def res (fr : AFr) (H : AHeap) : Option (List AV) := res2 (some (fr 0)) (some [])
end law06_lives
def law06_lives : Option AV := closeUpR (some [[none]]) (afinR law06_lives.res (law06_lives.body mem_New.spec core_Step.spec (args0 []) AHeap.empty))
def law06_lives.spec : List AV → Option AV
  | [] => law06_lives
  | _ => none
namespace law06_CoreRuns
@[simp] def r0 (fr : AFr) (H : AHeap) : ARes :=
 areg (o' (abox T.ty_api_State (fr 1) H) ⟨fun v4 H =>
 e' [(0, fr 0), (2, fr 2), (4, v4)] H⟩)
@[simp] def r1 (fr : AFr) (H : AHeap) : ARes :=
 areg (q' (alenR .sl (fr 0)) H ⟨fun v17 H =>
 q' (bn' .gtr v17 (.int .i64 60)) H ⟨fun v18 H =>
 e' [(0, fr 0), (2, fr 2), (4, fr 4), (18, v18)] H⟩⟩)
@[simp] def r2 (fr : AFr) (H : AHeap) : ARes :=
 areg (q' (asliceR (.sl 1) (fr 0) none (some (.int .i64 60)) none) H ⟨fun v20 H =>
 e' [(0, v20), (2, fr 2), (4, fr 4)] H⟩)
@[simp] def r3 (fr : AFr) (H : AHeap) : ARes :=
 areg (q' (alenR .sl (fr 2)) H ⟨fun v22 H =>
 q' (bn' .gtr v22 (.int .i64 30)) H ⟨fun v23 H =>
 e' [(0, fr 0), (2, fr 2), (4, fr 4), (23, v23)] H⟩⟩)
@[simp] def r4 (fr : AFr) (H : AHeap) : ARes :=
 areg (q' (asliceR (.sl 1) (fr 2) none (some (.int .i64 30)) none) H ⟨fun v25 H =>
 e' [(0, fr 0), (2, v25), (4, fr 4)] H⟩)
@[simp] def r5 (s0 s1 : SpecM) (fr : AFr) (H : AHeap) : ARes :=
 areg (o' (abuildSliceR (some ⟨T.ty_uint16, 1, 2, [(W16 0#16)]⟩) 0 [] H) ⟨fun v26 H =>
 o' (aappendR (some ⟨T.ty_uint16, 1, 2, [(W16 0#16)]⟩) v26 (fr 0) H) ⟨fun v28 H =>
 o' (abuildSliceR (some ⟨T.ty_uint32, 1, 4, [(W32 0#32)]⟩) 0 [] H) ⟨fun v29 H =>
 o' (aappendR (some ⟨T.ty_uint32, 1, 4, [(W32 0#32)]⟩) v29 (fr 2) H) ⟨fun v31 H =>
 o' (callM [true, false, true] s0 [[some 1], [none], [some 1]] [v28, (.int .i64 4), v31] H) ⟨fun v32 H =>
 o' (callM [true, false, true] s1 [[some 1], [none], [some 1]] [(fr 0), (.int .i64 4), (fr 2)] H) ⟨fun v35 H =>
 e' [(4, fr 4), (7, v32), (8, v35)] H⟩⟩⟩⟩⟩⟩)
@[simp] def r6 (fr : AFr) (H : AHeap) : ARes :=
 areg (q' (abinR .p .eql (fr 7) .nilp) H ⟨fun v37 H =>
 e' [(4, fr 4), (7, fr 7), (8, fr 8), (37, v37)] H⟩)
@[simp] def r7 (fr : AFr) (H : AHeap) : ARes :=
 areg (e' [(6, (.bool false))] H)
@[simp] def r8 (fr : AFr) (H : AHeap) : ARes :=
 areg (q' (fa' 8 (fr 4)) H ⟨fun v38 H =>
 w' (astoreR (some 1) v38 (W32 0#32) H) ⟨fun _ H =>
 e' [(4, fr 4), (7, fr 7), (8, fr 8)] H⟩⟩)
@[simp] def r9 (fr : AFr) (H : AHeap) : ARes :=
 areg (e' [(4, fr 4), (7, fr 7), (8, fr 8), (9, (.int .i64 0))] H)
@[simp] def r10 (fr : AFr) (H : AHeap) : ARes :=
 areg (q' (bn' .lss (fr 9) (.int .i64 80)) H ⟨fun v40 H =>
 e' [(4, fr 4), (7, fr 7), (8, fr 8), (9, fr 9), (40, v40)] H⟩)
@[simp] def r12 (s2 : SpecM) (fr : AFr) (H : AHeap) : ARes :=
 areg (q' (Ld' 13 (fr 4) H) H ⟨fun v44 H =>
 o' (callM [true, false] s2 [[none, none, none, none, none, none, none, none, none, none, none, none, none], [none]] [v44, (fr 7)] H) ⟨fun v46 H =>
 q' (aextract v46 0) H ⟨fun v47 H =>
 q' (aextract v46 1) H ⟨fun v48 H =>
 q' (aextract v46 2) H ⟨fun v49 H =>
 o' (aallocR T.ty_api_State (some (.agg [(W32 0#32), (W32 0#32), (W32 0#32), (W32 0#32), (W32 0#32), (W32 0#32), (W32 0#32), (W32 0#32), (W32 0#32), (.bool false), (.bool false), (.bool false), (.bool false)])) H) ⟨fun v10 H =>
 w' (astoreR (some 13) v10 v47 H) ⟨fun _ H =>
 e' [(4, fr 4), (7, fr 7), (8, fr 8), (9, fr 9), (10, v10), (11, v48), (12, v49)] H⟩⟩⟩⟩⟩⟩⟩)
@[simp] def r13 (s3 : SpecM) (fr : AFr) (H : AHeap) : ARes :=
 areg (q' (Ld' 13 (fr 4) H) H ⟨fun v51 H =>
 o' (callM [true, false] s3 [[none, none, none, none, none, none, none, none, none, none, none, none, none], [none]] [v51, (fr 8)] H) ⟨fun v53 H =>
 q' (aextract v53 0) H ⟨fun v54 H =>
 q' (aextract v53 1) H ⟨fun v55 H =>
 q' (aextract v53 2) H ⟨fun v56 H =>
 o' (aallocR T.ty_api_State (some (.agg [(W32 0#32), (W32 0#32), (W32 0#32), (W32 0#32), (W32 0#32), (W32 0#32), (W32 0#32), (W32 0#32), (W32 0#32), (.bool false), (.bool false), (.bool false), (.bool false)])) H) ⟨fun v13 H =>
 w' (astoreR (some 13) v13 v54 H) ⟨fun _ H =>
 e' [(4, fr 4), (7, fr 7), (8, fr 8), (9, fr 9), (10, fr 10), (11, fr 11), (12, fr 12), (13, v13), (14, v55), (15, v56)] H⟩⟩⟩⟩⟩⟩⟩)
@[simp] def r14 (s4 : SpecM) (s5 : SpecP) (fr : AFr) (H : AHeap) : ARes :=
 areg (q' (Ld' 13 (fr 10) H) H ⟨fun v57 H1 =>
 q' (Ld' 13 (fr 13) H1) H1 ⟨fun v58 H2 =>
 q' (abinR (.c [.i, .i, .i, .i, .i, .i, .i, .i, .i, .b, .b, .b, .b]) .neq v57 v58) H2 ⟨fun v59 H3 =>
 q' (some v59) H3 ⟨fun v60 H4 =>
 G' v60 false ⟨some (fr 11)⟩ H4 ⟨fun v61 H5 =>
 G' v60 false ⟨some (fr 14)⟩ H5 ⟨fun v62 H6 =>
 G' v60 false ⟨abinR .b .neq v61 v62⟩ H6 ⟨fun v63 H7 =>
 q' (apick v60 (.bool true) v63) H7 ⟨fun v64 H8 =>
 q' (some v64) H8 ⟨fun v65 H9 =>
 G' v65 false ⟨some (fr 12)⟩ H9 ⟨fun v66 H10 =>
 G' v65 false ⟨some (fr 15)⟩ H10 ⟨fun v67 H11 =>
 G' v65 false ⟨bn' .neq v66 v67⟩ H11 ⟨fun v68 H12 =>
 q' (apick v65 (.bool true) v68) H12 ⟨fun v69 H13 =>
 q' (some v69) H13 ⟨fun v70 H14 =>
 G' v70 false ⟨some (fr 7)⟩ H14 ⟨fun v71 H15 =>
 o' (san H15 (g' (gw v70 false) ⟨callM [false] s4 [[none]] [v71] H15⟩ H15)) ⟨fun v72 H16 =>
 G' v70 false ⟨some (fr 8)⟩ H16 ⟨fun v73 H17 =>
 G' v70 false ⟨anil v73⟩ H17 ⟨fun v74 H18 =>
 G' v70 false ⟨fa' 1 v74⟩ H18 ⟨fun v75 H19 =>
 G' v70 false ⟨ld' v75 H19⟩ H19 ⟨fun v76 H20 =>
 o' (g' (gw v70 false) ⟨callP false s5 [[some 1], [some 1]] [v72, v76] H20⟩ H20) ⟨fun v77 H21 =>
 G' v70 false ⟨aun .not v77⟩ H21 ⟨fun v78 H22 =>
 q' (apick v70 (.bool true) v78) H22 ⟨fun v79 H23 =>
 withChk [aloadR (some none) v75 H15 = aloadR (some none) v75 H16] (e' [(4, fr 4), (7, fr 7), (8, fr 8), (9, fr 9), (10, fr 10), (11, fr 11), (12, fr 12), (79, v79)] H23)⟩⟩⟩⟩⟩⟩⟩⟩⟩⟩⟩⟩⟩⟩⟩⟩⟩⟩⟩⟩⟩⟩⟩)
@[simp] def r15 (fr : AFr) (H : AHeap) : ARes :=
 areg (e' [(6, (.bool false))] H)
@[simp] def r16 (fr : AFr) (H : AHeap) : ARes :=
 areg (G' (fr 11) false ⟨some (fr 12)⟩ H ⟨fun v82 H =>
 G' (fr 11) false ⟨bn' .neq v82 (.int .i64 0)⟩ H ⟨fun v83 H =>
 q' (apick (fr 11) (.bool true) v83) H ⟨fun v84 H =>
 e' [(4, fr 4), (7, fr 7), (8, fr 8), (9, fr 9), (10, fr 10), (84, v84)] H⟩⟩⟩)
@[simp] def r17 (s6 : SpecP) (fr : AFr) (H : AHeap) : ARes :=
 areg (q' (Ld' 13 (fr 10) H) H ⟨fun v85 H =>
 q' (Ld' 13 (fr 4) H) H ⟨fun v86 H =>
 q' (abinR (.c [.i, .i, .i, .i, .i, .i, .i, .i, .i, .b, .b, .b, .b]) .eql v85 v86) H ⟨fun v87 H =>
 o' (g' (gw v87 true) ⟨callP false s6 [] [] H⟩ H) ⟨fun v89 H =>
 q' (apick v87 v89 (.bool false)) H ⟨fun v90 H =>
 e' [(6, v90)] H⟩⟩⟩⟩⟩)
@[simp] def r18 (fr : AFr) (H : AHeap) : ARes :=
 areg (q' (Ld' 13 (fr 10) H) H ⟨fun v91 H =>
 w' (astoreR (some 13) (fr 4) v91 H) ⟨fun _ H =>
 e' [(4, fr 4), (7, fr 7), (8, fr 8), (9, fr 9)] H⟩⟩)
@[simp] def r11 (fr : AFr) (H : AHeap) : ARes :=
 areg (q' (bn' .add (fr 9) (.int .i64 1)) H ⟨fun v42 H =>
 e' [(4, fr 4), (7, fr 7), (8, fr 8), (9, v42)] H⟩)
@[simp] def r19 (s6 : SpecP) (fr : AFr) (H : AHeap) : ARes :=
 areg (o' (callP false s6 [] [] H) ⟨fun v92 H =>
 e' [(6, v92)] H⟩)
def l0 (s0 s1 s2 s3 s4 : SpecM) (s5 s6 : SpecP) (fr : AFr) (H : AHeap) : ARes :=
  s' (s' (r10 fr H) ⟨fun fr H =>
 c' (fr 40)
 ⟨some (.normal, fr, H)⟩
 ⟨some (.exit 0, fr, H)⟩⟩) ⟨fun fr H =>
 s' (aexit 1 (s' (r12 s2 fr H) ⟨fun fr H =>
 s' (r13 s3 fr H) ⟨fun fr H =>
 s' (s' (r14 s4 s5 fr H) ⟨fun fr H =>
 c' (fr 79)
 ⟨s' (r15 fr H) ⟨fun fr H =>
 some (.ret, fr, H)⟩⟩
 ⟨some (.normal, fr, H)⟩⟩) ⟨fun fr H =>
 s' (s' (r16 fr H) ⟨fun fr H =>
 c' (fr 84)
 ⟨s' (r17 s6 fr H) ⟨fun fr H =>
 some (.ret, fr, H)⟩⟩
 ⟨some (.normal, fr, H)⟩⟩) ⟨fun fr H =>
 r18 fr H⟩⟩⟩⟩)) ⟨fun fr H =>
 r11 fr H⟩⟩
@[simp] def body (s0 s1 s2 s3 s4 : SpecM) (s5 s6 : SpecP) (fr : AFr) (H : AHeap) : ARes :=
  s' (r0 fr H) ⟨fun fr H =>
 s' (s' (r1 fr H) ⟨fun fr H =>
 c' (fr 18)
 ⟨r2 fr H⟩
 ⟨some (.normal, fr, H)⟩⟩) ⟨fun fr H =>
 s' (s' (r3 fr H) ⟨fun fr H =>
 c' (fr 23)
 ⟨r4 fr H⟩
 ⟨some (.normal, fr, H)⟩⟩) ⟨fun fr H =>
 s' (r5 s0 s1 fr H) ⟨fun fr H =>
 s' (s' (r6 fr H) ⟨fun fr H =>
 c' (fr 37)
 ⟨s' (r7 fr H) ⟨fun fr H =>
 some (.ret, fr, H)⟩⟩
 ⟨some (.normal, fr, H)⟩⟩) ⟨fun fr H =>
 s' (r8 fr H) ⟨fun fr H =>
 s' (s' (r9 fr H) ⟨fun fr H =>
  aexit 0 (aloop (l0 s0 s1 s2 s3 s4 s5 s6) fr H)⟩) ⟨fun fr H =>
 s' (r19 s6 fr H) ⟨fun fr H =>
 some (.ret, fr, H)⟩⟩⟩⟩⟩⟩⟩⟩
@[simp] def res (fr : AFr) (H : AHeap) : Option (List AV) := res2 (some (fr 6)) (some [])
end law06_CoreRuns
def law06_CoreRuns (a0 a1 a2 : AV) : Option AV := closeUpR (some [[none]]) (afinR law06_CoreRuns.res (law06_CoreRuns.body mem_New.spec ref05_New.spec core_Step.spec ref06_Step.spec mem_Mem_Words.spec ref05_Same.spec law06_lives.spec (args0 [a0, a1, a2]) AHeap.empty))
def law06_CoreRuns.spec : List AV → Option AV
  | [a0, a1, a2] => law06_CoreRuns a0 a1 a2
  | _ => none
namespace law06_CoreOne
def C (s0 s1 s2 : SpecP) (s3 s4 : SpecM) (s5 : SpecP) (s6 : SpecM) (s7 : SpecP) : Tab := ((((((((Tab.none.add 22 (.pure false s0)).add 21 (.pure false s1)).add 23 (.pure false s2)).add 15 (.ref [true, false, true] s3)).add 17 (.ref [true, false] s4)).add 24 (.pure false s5)).add 20 (.ref [false] s6)).add 19 (.pure false s7))
@[simp] def r0 (fr : AFr) (H : AHeap) : ARes :=
 areg (o' (abox T.ty_api_Ins (fr 0) H) ⟨fun v2 H =>
 o' (abox T.ty_2_api_State (fr 1) H) ⟨fun v3 H =>
 e' [(2, v2), (3, v3)] H⟩⟩)
@[simp] def r1 (s0 : SpecP) (fr : AFr) (H : AHeap) : ARes :=
 areg (q' (Ld' 5 (fr 2) H) H ⟨fun v23 H =>
 o' (callP false s0 [[none, none, none, none, none]] [v23] H) ⟨fun v24 H =>
 q' (aextract v24 0) H ⟨fun v25 H =>
 q' (aextract v24 1) H ⟨fun v26 H =>
 e' [(2, fr 2), (3, fr 3), (5, v25), (6, v26)] H⟩⟩⟩⟩)
@[simp] def r2 (fr : AFr) (H : AHeap) : ARes :=
 areg (q' (bn' .neq (fr 6) (.int .i64 0)) H ⟨fun v28 H =>
 e' [(2, fr 2), (3, fr 3), (5, fr 5), (28, v28)] H⟩)
@[simp] def r3 (s1 : SpecP) (fr : AFr) (H : AHeap) : ARes :=
 areg (o' (callP false s1 [] [] H) ⟨fun v29 H =>
 e' [(4, v29)] H⟩)
@[simp] def r4 (fr : AFr) (H : AHeap) : ARes :=
 areg (q' (aindexAddrR (.arr 2 13) (fr 3) (.int .i64 0)) H ⟨fun v30 H1 =>
 q' (Ld' 13 v30 H1) H1 ⟨fun v31 H2 =>
 q' (aindexAddrR (.arr 2 13) (fr 3) (.int .i64 1)) H2 ⟨fun v32 H3 =>
 q' (Ld' 13 v32 H3) H3 ⟨fun v33 H4 =>
 o' (aallocR T.ty_api_State (some (.agg [(W32 0#32), (W32 0#32), (W32 0#32), (W32 0#32), (W32 0#32), (W32 0#32), (W32 0#32), (W32 0#32), (W32 0#32), (.bool false), (.bool false), (.bool false), (.bool false)])) H4) ⟨fun v7 H5 =>
 o' (aallocR T.ty_api_State (some (.agg [(W32 0#32), (W32 0#32), (W32 0#32), (W32 0#32), (W32 0#32), (W32 0#32), (W32 0#32), (W32 0#32), (W32 0#32), (.bool false), (.bool false), (.bool false), (.bool false)])) H5) ⟨fun v8 H6 =>
 w' (astoreR (some 13) v7 v31 H6) ⟨fun _ H7 =>
 w' (astoreR (some 13) v8 v33 H7) ⟨fun _ H8 =>
 withChk [aloadR (some (some 13)) v32 H6 = aloadR (some (some 13)) v32 H7] (e' [(2, fr 2), (5, fr 5), (7, v7), (8, v8)] H8)⟩⟩⟩⟩⟩⟩⟩⟩)
@[simp] def r5 (s2 : SpecP) (fr : AFr) (H : AHeap) : ARes :=
 areg (q' (Ld' 5 (fr 2) H) H ⟨fun v34 H =>
 o' (callP false s2 [[none, none, none, none, none]] [v34] H) ⟨fun v35 H =>
 e' [(2, fr 2), (5, fr 5), (7, fr 7), (8, fr 8), (9, v35)] H⟩⟩)
@[simp] def r6 (fr : AFr) (H : AHeap) : ARes :=
 areg (e' [(2, fr 2), (5, fr 5), (7, fr 7), (8, fr 8), (9, fr 9), (10, (.int .i64 0))] H)
@[simp] def r7 (fr : AFr) (H : AHeap) : ARes :=
 areg (q' (alenR .sl (fr 9)) H ⟨fun v38 H =>
 q' (bn' .lss (fr 10) v38) H ⟨fun v39 H =>
 e' [(2, fr 2), (5, fr 5), (7, fr 7), (8, fr 8), (9, fr 9), (10, fr 10), (39, v39)] H⟩⟩)
@[simp] def r9 (fr : AFr) (H : AHeap) : ARes :=
 areg (q' (some (fr 9)) H ⟨fun v42 H1 =>
 q' (some (fr 10)) H1 ⟨fun v43 H2 =>
 q' (aindexAddrR (.sl 1) v42 v43) H2 ⟨fun v44 H3 =>
 q' (ld' v44 H3) H3 ⟨fun v45 H4 =>
 q' (some (fr 9)) H4 ⟨fun v46 H5 =>
 q' (some (fr 10)) H5 ⟨fun v47 H6 =>
 q' (aindexAddrR (.sl 1) v46 v47) H6 ⟨fun v48 H7 =>
 q' (ld' v48 H7) H7 ⟨fun v49 H8 =>
 q' (fa' 0 (fr 7)) H8 ⟨fun v50 H9 =>
 q' (aindexAddrR (.arr 8 1) v50 v49) H9 ⟨fun v51 H10 =>
 q' (ld' v51 H10) H10 ⟨fun v52 H11 =>
 q' (fa' 0 (fr 8)) H11 ⟨fun v53 H12 =>
 q' (aindexAddrR (.arr 8 1) v53 v45) H12 ⟨fun v54 H13 =>
 w' (astoreR (some 1) v54 v52 H13) ⟨fun _ H14 =>
 e' [(2, fr 2), (5, fr 5), (7, fr 7), (8, fr 8), (9, fr 9), (10, fr 10)] H14⟩⟩⟩⟩⟩⟩⟩⟩⟩⟩⟩⟩⟩⟩)
@[simp] def r8 (fr : AFr) (H : AHeap) : ARes :=
 areg (q' (bn' .add (fr 10) (.int .i64 1)) H ⟨fun v41 H =>
 e' [(2, fr 2), (5, fr 5), (7, fr 7), (8, fr 8), (9, fr 9), (10, v41)] H⟩)
@[simp] def r10 (fr : AFr) (H : AHeap) : ARes :=
 areg (q' (fa' 9 (fr 7)) H ⟨fun v55 H1 =>
 q' (ld' v55 H1) H1 ⟨fun v56 H2 =>
 q' (fa' 10 (fr 7)) H2 ⟨fun v57 H3 =>
 q' (ld' v57 H3) H3 ⟨fun v58 H4 =>
 q' (fa' 11 (fr 7)) H4 ⟨fun v59 H5 =>
 q' (ld' v59 H5) H5 ⟨fun v60 H6 =>
 q' (fa' 12 (fr 7)) H6 ⟨fun v61 H7 =>
 q' (ld' v61 H7) H7 ⟨fun v62 H8 =>
 q' (fa' 9 (fr 8)) H8 ⟨fun v63 H9 =>
 w' (astoreR (some 1) v63 v56 H9) ⟨fun _ H10 =>
 q' (fa' 10 (fr 8)) H10 ⟨fun v64 H11 =>
 w' (astoreR (some 1) v64 v58 H11) ⟨fun _ H12 =>
 q' (fa' 11 (fr 8)) H12 ⟨fun v65 H13 =>
 w' (astoreR (some 1) v65 v60 H13) ⟨fun _ H14 =>
 q' (fa' 12 (fr 8)) H14 ⟨fun v66 H15 =>
 w' (astoreR (some 1) v66 v62 H15) ⟨fun _ H16 =>
 withChk [aloadR (some none) v57 H9 = aloadR (some none) v57 H10, aloadR (some none) v59 H9 = aloadR (some none) v59 H10, aloadR (some none) v59 H11 = aloadR (some none) v59 H12, aloadR (some none) v61 H9 = aloadR (some none) v61 H10, aloadR (some none) v61 H11 = aloadR (some none) v61 H12, aloadR (some none) v61 H13 = aloadR (some none) v61 H14] (e' [(2, fr 2), (5, fr 5), (7, fr 7), (8, fr 8)] H16)⟩⟩⟩⟩⟩⟩⟩⟩⟩⟩⟩⟩⟩⟩⟩⟩)
@[simp] def r11 (fr : AFr) (H : AHeap) : ARes :=
 areg (q' (fa' 8 (fr 7)) H ⟨fun v67 H =>
 w' (astoreR (some 1) v67 (W32 0#32) H) ⟨fun _ H =>
 q' (fa' 8 (fr 8)) H ⟨fun v68 H =>
 w' (astoreR (some 1) v68 (W32 0#32) H) ⟨fun _ H =>
 e' [(2, fr 2), (5, fr 5), (7, fr 7), (8, fr 8)] H⟩⟩⟩⟩)
@[simp] def r12 (s3 : SpecM) (fr : AFr) (H : AHeap) : ARes :=
 areg (o' (abuildSliceR (some ⟨T.ty_uint16, 1, 2, [(W16 0#16)]⟩) 4 [(0, (fr 5)), (1, (W16 1#16)), (2, (W16 2#16)), (3, (W16 3#16))] H) ⟨fun v70 H =>
 o' (abuildSliceR (some ⟨T.ty_uint32, 1, 4, [(W32 0#32)]⟩) 1 [(0, (W32 9#32))] H) ⟨fun v71 H =>
 o' (callM [true, false, true] s3 [[some 1], [none], [some 1]] [v70, (.int .i64 4), v71] H) ⟨fun v72 H =>
 o' (abuildSliceR (some ⟨T.ty_uint16, 1, 2, [(W16 0#16)]⟩) 4 [(0, (fr 5)), (1, (W16 1#16)), (2, (W16 2#16)), (3, (W16 3#16))] H) ⟨fun v74 H =>
 o' (abuildSliceR (some ⟨T.ty_uint32, 1, 4, [(W32 0#32)]⟩) 1 [(0, (W32 9#32))] H) ⟨fun v75 H =>
 o' (callM [true, false, true] s3 [[some 1], [none], [some 1]] [v74, (.int .i64 4), v75] H) ⟨fun v76 H =>
 e' [(2, fr 2), (7, fr 7), (8, fr 8), (11, v72), (12, v76)] H⟩⟩⟩⟩⟩⟩)
@[simp] def r13 (s4 : SpecM) (fr : AFr) (H : AHeap) : ARes :=
 areg (q' (Ld' 13 (fr 7) H) H ⟨fun v78 H =>
 o' (callM [true, false] s4 [[none, none, none, none, none, none, none, none, none, none, none, none, none], [none]] [v78, (fr 11)] H) ⟨fun v80 H =>
 q' (aextract v80 0) H ⟨fun v81 H =>
 q' (aextract v80 1) H ⟨fun v82 H =>
 q' (aextract v80 2) H ⟨fun v83 H =>
 o' (aallocR T.ty_api_State (some (.agg [(W32 0#32), (W32 0#32), (W32 0#32), (W32 0#32), (W32 0#32), (W32 0#32), (W32 0#32), (W32 0#32), (W32 0#32), (.bool false), (.bool false), (.bool false), (.bool false)])) H) ⟨fun v13 H =>
 w' (astoreR (some 13) v13 v81 H) ⟨fun _ H =>
 e' [(2, fr 2), (7, fr 7), (8, fr 8), (11, fr 11), (12, fr 12), (13, v13), (15, v83)] H⟩⟩⟩⟩⟩⟩⟩)
@[simp] def r14 (s4 : SpecM) (fr : AFr) (H : AHeap) : ARes :=
 areg (q' (Ld' 13 (fr 8) H) H ⟨fun v85 H =>
 o' (callM [true, false] s4 [[none, none, none, none, none, none, none, none, none, none, none, none, none], [none]] [v85, (fr 12)] H) ⟨fun v87 H =>
 q' (aextract v87 0) H ⟨fun v88 H =>
 q' (aextract v87 1) H ⟨fun v89 H =>
 q' (aextract v87 2) H ⟨fun v90 H =>
 o' (aallocR T.ty_api_State (some (.agg [(W32 0#32), (W32 0#32), (W32 0#32), (W32 0#32), (W32 0#32), (W32 0#32), (W32 0#32), (W32 0#32), (W32 0#32), (.bool false), (.bool false), (.bool false), (.bool false)])) H) ⟨fun v16 H =>
 w' (astoreR (some 13) v16 v88 H) ⟨fun _ H =>
 e' [(2, fr 2), (7, fr 7), (8, fr 8), (11, fr 11), (12, fr 12), (13, fr 13), (15, fr 15), (16, v16), (18, v90)] H⟩⟩⟩⟩⟩⟩⟩)
@[simp] def r15 (s5 : SpecP) (fr : AFr) (H : AHeap) : ARes :=
 areg (q' (Ld' 5 (fr 2) H) H ⟨fun v92 H =>
 o' (callP false s5 [[none, none, none, none, none]] [v92] H) ⟨fun v93 H =>
 q' (aextract v93 0) H ⟨fun v94 H =>
 q' (aextract v93 1) H ⟨fun v95 H =>
 e' [(7, fr 7), (8, fr 8), (11, fr 11), (12, fr 12), (13, fr 13), (15, fr 15), (16, fr 16), (18, fr 18), (19, v94), (20, v95)] H⟩⟩⟩⟩)
@[simp] def r16 (s6 : SpecM) (s7 : SpecP) (fr : AFr) (H : AHeap) : ARes :=
 areg (q' (bn' .neq (fr 15) (fr 18)) H ⟨fun v98 H =>
 G' v98 false ⟨fa' 8 (fr 13)⟩ H ⟨fun v100 H =>
 G' v98 false ⟨ld' v100 H⟩ H ⟨fun v101 H =>
 G' v98 false ⟨fa' 8 (fr 16)⟩ H ⟨fun v102 H =>
 G' v98 false ⟨ld' v102 H⟩ H ⟨fun v103 H =>
 G' v98 false ⟨bn' .neq v101 v103⟩ H ⟨fun v104 H =>
 q' (apick v98 (.bool true) v104) H ⟨fun v105 H =>
 G' v105 false ⟨some (fr 11)⟩ H ⟨fun v107 H =>
 G' v105 false ⟨abinR .p .eql v107 .nilp⟩ H ⟨fun v108 H =>
 q' (apick v105 (.bool true) v108) H ⟨fun v109 H =>
 G' v109 false ⟨some (fr 12)⟩ H ⟨fun v111 H =>
 G' v109 false ⟨abinR .p .eql v111 .nilp⟩ H ⟨fun v112 H =>
 q' (apick v109 (.bool true) v112) H ⟨fun v113 H =>
 G' v113 false ⟨some (fr 11)⟩ H ⟨fun v115 H =>
 o' (g' (gw v113 false) ⟨callM [false] s6 [[none]] [v115] H⟩ H) ⟨fun v116 H =>
 G' v113 false ⟨some (fr 12)⟩ H ⟨fun v117 H =>
 o' (g' (gw v113 false) ⟨callM [false] s6 [[none]] [v117] H⟩ H) ⟨fun v118 H =>
 o' (g' (gw v113 false) ⟨callP false s7 [[some 1], [some 1]] [v116, v118] H⟩ H) ⟨fun v119 H =>
 G' v113 false ⟨aun .not v119⟩ H ⟨fun v120 H =>
 q' (apick v113 (.bool true) v120) H ⟨fun v121 H =>
 e' [(7, fr 7), (8, fr 8), (13, fr 13), (15, fr 15), (16, fr 16), (19, fr 19), (20, fr 20), (121, v121)] H⟩⟩⟩⟩⟩⟩⟩⟩⟩⟩⟩⟩⟩⟩⟩⟩⟩⟩⟩⟩)
@[simp] def r17 (fr : AFr) (H : AHeap) : ARes :=
 areg (e' [(4, (.bool false))] H)
@[simp] def r18 (fr : AFr) (H : AHeap) : ARes :=
 areg (e' [(7, fr 7), (8, fr 8), (13, fr 13), (15, fr 15), (16, fr 16), (19, fr 19), (20, fr 20), (21, (.int .i64 0))] H)
@[simp] def r19 (fr : AFr) (H : AHeap) : ARes :=
 areg (q' (bn' .lss (fr 21) (.int .i64 8)) H ⟨fun v123 H =>
 e' [(7, fr 7), (8, fr 8), (13, fr 13), (15, fr 15), (16, fr 16), (19, fr 19), (20, fr 20), (21, fr 21), (123, v123)] H⟩)
@[simp] def r21 (fr : AFr) (H : AHeap) : ARes :=
 areg (G' (fr 20) true ⟨some (fr 21)⟩ H ⟨fun v128 H =>
 G' (fr 20) true ⟨some (fr 19)⟩ H ⟨fun v129 H =>
 G' (fr 20) true ⟨bn' .eql v128 v129⟩ H ⟨fun v130 H =>
 q' (apick (fr 20) v130 (.bool false)) H ⟨fun v131 H =>
 G' v131 true ⟨some (fr 15)⟩ H ⟨fun v133 H =>
 G' v131 true ⟨bn' .eql v133 (.int .i64 0)⟩ H ⟨fun v134 H =>
 q' (apick v131 v134 (.bool false)) H ⟨fun v135 H =>
 e' [(7, fr 7), (8, fr 8), (13, fr 13), (15, fr 15), (16, fr 16), (19, fr 19), (20, fr 20), (21, fr 21), (135, v135)] H⟩⟩⟩⟩⟩⟩⟩)
@[simp] def r22 (fr : AFr) (H : AHeap) : ARes :=
 areg (q' (some (fr 21)) H ⟨fun v136 H1 =>
 q' (fa' 0 (fr 13)) H1 ⟨fun v137 H2 =>
 q' (aindexAddrR (.arr 8 1) v137 v136) H2 ⟨fun v138 H3 =>
 q' (ld' v138 H3) H3 ⟨fun v139 H4 =>
 q' (some (fr 21)) H4 ⟨fun v140 H5 =>
 q' (fa' 0 (fr 16)) H5 ⟨fun v141 H6 =>
 q' (aindexAddrR (.arr 8 1) v141 v140) H6 ⟨fun v142 H7 =>
 q' (ld' v142 H7) H7 ⟨fun v143 H8 =>
 q' (bn' .neq v139 v143) H8 ⟨fun v144 H9 =>
 e' [(7, fr 7), (8, fr 8), (13, fr 13), (15, fr 15), (16, fr 16), (19, fr 19), (20, fr 20), (21, fr 21), (144, v144)] H9⟩⟩⟩⟩⟩⟩⟩⟩⟩)
@[simp] def r23 (fr : AFr) (H : AHeap) : ARes :=
 areg (e' [(4, (.bool false))] H)
@[simp] def r24 (fr : AFr) (H : AHeap) : ARes :=
 areg (q' (some (fr 21)) H ⟨fun v145 H1 =>
 q' (fa' 0 (fr 13)) H1 ⟨fun v146 H2 =>
 q' (aindexAddrR (.arr 8 1) v146 v145) H2 ⟨fun v147 H3 =>
 q' (ld' v147 H3) H3 ⟨fun v148 H4 =>
 q' (some (fr 21)) H4 ⟨fun v149 H5 =>
 q' (fa' 0 (fr 7)) H5 ⟨fun v150 H6 =>
 q' (aindexAddrR (.arr 8 1) v150 v149) H6 ⟨fun v151 H7 =>
 q' (ld' v151 H7) H7 ⟨fun v152 H8 =>
 q' (bn' .neq v148 v152) H8 ⟨fun v153 H9 =>
 q' (some v153) H9 ⟨fun v154 H10 =>
 G' v154 false ⟨some (fr 21)⟩ H10 ⟨fun v155 H11 =>
 G' v154 false ⟨fa' 0 (fr 16)⟩ H11 ⟨fun v156 H12 =>
 G' v154 false ⟨aindexAddrR (.arr 8 1) v156 v155⟩ H12 ⟨fun v157 H13 =>
 G' v154 false ⟨ld' v157 H13⟩ H13 ⟨fun v158 H14 =>
 G' v154 false ⟨some (fr 21)⟩ H14 ⟨fun v159 H15 =>
 G' v154 false ⟨fa' 0 (fr 8)⟩ H15 ⟨fun v160 H16 =>
 G' v154 false ⟨aindexAddrR (.arr 8 1) v160 v159⟩ H16 ⟨fun v161 H17 =>
 G' v154 false ⟨ld' v161 H17⟩ H17 ⟨fun v162 H18 =>
 G' v154 false ⟨bn' .neq v158 v162⟩ H18 ⟨fun v163 H19 =>
 q' (apick v154 (.bool true) v163) H19 ⟨fun v164 H20 =>
 e' [(7, fr 7), (8, fr 8), (13, fr 13), (15, fr 15), (16, fr 16), (19, fr 19), (20, fr 20), (21, fr 21), (164, v164)] H20⟩⟩⟩⟩⟩⟩⟩⟩⟩⟩⟩⟩⟩⟩⟩⟩⟩⟩⟩⟩)
@[simp] def r25 (fr : AFr) (H : AHeap) : ARes :=
 areg (e' [(4, (.bool false))] H)
@[simp] def r20 (fr : AFr) (H : AHeap) : ARes :=
 areg (q' (bn' .add (fr 21) (.int .i64 1)) H ⟨fun v125 H =>
 e' [(7, fr 7), (8, fr 8), (13, fr 13), (15, fr 15), (16, fr 16), (19, fr 19), (20, fr 20), (21, v125)] H⟩)
@[simp] def r26 (s1 : SpecP) (fr : AFr) (H : AHeap) : ARes :=
 areg (o' (callP false s1 [] [] H) ⟨fun v165 H =>
 e' [(4, v165)] H⟩)
def l0 (s0 s1 s2 : SpecP) (s3 s4 : SpecM) (s5 : SpecP) (s6 : SpecM) (s7 : SpecP) (fr : AFr) (H : AHeap) : ARes :=
  s' (s' (r7 fr H) ⟨fun fr H =>
 c' (fr 39)
 ⟨some (.normal, fr, H)⟩
 ⟨some (.exit 0, fr, H)⟩⟩) ⟨fun fr H =>
 s' (aexit 1 (r9 fr H)) ⟨fun fr H =>
 r8 fr H⟩⟩
def l1 (s0 s1 s2 : SpecP) (s3 s4 : SpecM) (s5 : SpecP) (s6 : SpecM) (s7 : SpecP) (fr : AFr) (H : AHeap) : ARes :=
  s' (s' (r19 fr H) ⟨fun fr H =>
 c' (fr 123)
 ⟨some (.normal, fr, H)⟩
 ⟨some (.exit 2, fr, H)⟩⟩) ⟨fun fr H =>
 s' (aexit 3 (s' (r21 fr H) ⟨fun fr H =>
 c' (fr 135)
 ⟨s' (r22 fr H) ⟨fun fr H =>
 c' (fr 144)
 ⟨s' (r23 fr H) ⟨fun fr H =>
 some (.ret, fr, H)⟩⟩
 ⟨some (.normal, fr, H)⟩⟩⟩
 ⟨s' (r24 fr H) ⟨fun fr H =>
 c' (fr 164)
 ⟨s' (r25 fr H) ⟨fun fr H =>
 some (.ret, fr, H)⟩⟩
 ⟨some (.normal, fr, H)⟩⟩⟩⟩)) ⟨fun fr H =>
 r20 fr H⟩⟩
@[simp] def body (s0 s1 s2 : SpecP) (s3 s4 : SpecM) (s5 : SpecP) (s6 : SpecM) (s7 : SpecP) (fr : AFr) (H : AHeap) : ARes :=
  s' (r0 fr H) ⟨fun fr H =>
 s' (r1 s0 fr H) ⟨fun fr H =>
 s' (s' (r2 fr H) ⟨fun fr H =>
 c' (fr 28)
 ⟨s' (r3 s1 fr H) ⟨fun fr H =>
 some (.ret, fr, H)⟩⟩
 ⟨some (.normal, fr, H)⟩⟩) ⟨fun fr H =>
 s' (r4 fr H) ⟨fun fr H =>
 s' (r5 s2 fr H) ⟨fun fr H =>
 s' (s' (r6 fr H) ⟨fun fr H =>
  aexit 0 (aloop (l0 s0 s1 s2 s3 s4 s5 s6 s7) fr H)⟩) ⟨fun fr H =>
 s' (r10 fr H) ⟨fun fr H =>
 s' (r11 fr H) ⟨fun fr H =>
 s' (r12 s3 fr H) ⟨fun fr H =>
 s' (r13 s4 fr H) ⟨fun fr H =>
 s' (r14 s4 fr H) ⟨fun fr H =>
 s' (r15 s5 fr H) ⟨fun fr H =>
 s' (s' (r16 s6 s7 fr H) ⟨fun fr H =>
 c' (fr 121)
 ⟨s' (r17 fr H) ⟨fun fr H =>
 some (.ret, fr, H)⟩⟩
 ⟨some (.normal, fr, H)⟩⟩) ⟨fun fr H =>
 s' (s' (r18 fr H) ⟨fun fr H =>
  aexit 2 (aloop (l1 s0 s1 s2 s3 s4 s5 s6 s7) fr H)⟩) ⟨fun fr H =>
 s' (r26 s1 fr H) ⟨fun fr H =>
 some (.ret, fr, H)⟩⟩⟩⟩⟩⟩⟩⟩⟩⟩⟩⟩⟩⟩⟩
@[simp] def res (fr : AFr) (H : AHeap) : Option (List AV) := res2 (some (fr 4)) (some [])
end law06_CoreOne
def law06_CoreOne (a0 a1 : AV) : Option AV := closeUpR (some [[none]]) (afinR law06_CoreOne.res (law06_CoreOne.body ref02_Put.spec law06_lives.spec ref02_Reads.spec mem_New.spec core_Step.spec ref02_Writes.spec mem_Mem_Words.spec ref05_Same.spec (args0 [a0, a1]) AHeap.empty))
def law06_CoreOne.spec : List AV → Option AV
  | [a0, a1] => law06_CoreOne a0 a1
  | _ => none
end
end Go.Abs
