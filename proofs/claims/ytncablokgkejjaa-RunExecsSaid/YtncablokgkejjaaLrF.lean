/-
  The functions, as they are over abstract values. Printed by gen.py.
-/
import Derived.Test.YtncablokgkejjaaCrF
import Derived.Test.YtncablokgkejjaaLoF
set_option linter.unusedVariables false
namespace Go.Abs
noncomputable section
namespace ref07_Control
@[simp] def r0 (fr : AFr) (H : AHeap) : ARes :=
 areg (o' (abox T.ty_api_Leak (fr 0) H) ⟨fun v2 H =>
 o' (abox T.ty_api_Leak (fr 1) H) ⟨fun v3 H =>
 e' [(2, v2), (3, v3)] H⟩⟩)
@[simp] def r1 (fr : AFr) (H : AHeap) : ARes :=
 areg (q' (fa' 0 (fr 2)) H ⟨fun v5 H =>
 q' (ld' v5 H) H ⟨fun v6 H =>
 q' (fa' 0 (fr 3)) H ⟨fun v7 H =>
 q' (ld' v7 H) H ⟨fun v8 H =>
 q' (bn' .eql v6 v8) H ⟨fun v9 H =>
 G' v9 true ⟨fa' 1 (fr 2)⟩ H ⟨fun v11 H =>
 G' v9 true ⟨ld' v11 H⟩ H ⟨fun v12 H =>
 G' v9 true ⟨fa' 1 (fr 3)⟩ H ⟨fun v13 H =>
 G' v9 true ⟨ld' v13 H⟩ H ⟨fun v14 H =>
 G' v9 true ⟨bn' .eql v12 v14⟩ H ⟨fun v15 H =>
 q' (apick v9 v15 (.bool false)) H ⟨fun v16 H =>
 G' v16 true ⟨fa' 7 (fr 2)⟩ H ⟨fun v18 H =>
 G' v16 true ⟨ld' v18 H⟩ H ⟨fun v19 H =>
 G' v16 true ⟨fa' 7 (fr 3)⟩ H ⟨fun v20 H =>
 G' v16 true ⟨ld' v20 H⟩ H ⟨fun v21 H =>
 G' v16 true ⟨bn' .eql v19 v21⟩ H ⟨fun v22 H =>
 q' (apick v16 v22 (.bool false)) H ⟨fun v23 H =>
 G' v23 true ⟨fa' 8 (fr 2)⟩ H ⟨fun v25 H =>
 G' v23 true ⟨ld' v25 H⟩ H ⟨fun v26 H =>
 G' v23 true ⟨fa' 8 (fr 3)⟩ H ⟨fun v27 H =>
 G' v23 true ⟨ld' v27 H⟩ H ⟨fun v28 H =>
 G' v23 true ⟨abinR .b .eql v26 v28⟩ H ⟨fun v29 H =>
 q' (apick v23 v29 (.bool false)) H ⟨fun v30 H =>
 G' v30 true ⟨fa' 9 (fr 2)⟩ H ⟨fun v32 H =>
 G' v30 true ⟨ld' v32 H⟩ H ⟨fun v33 H =>
 G' v30 true ⟨fa' 9 (fr 3)⟩ H ⟨fun v34 H =>
 G' v30 true ⟨ld' v34 H⟩ H ⟨fun v35 H =>
 G' v30 true ⟨abinR .b .eql v33 v35⟩ H ⟨fun v36 H =>
 q' (apick v30 v36 (.bool false)) H ⟨fun v37 H =>
 e' [(4, v37)] H⟩⟩⟩⟩⟩⟩⟩⟩⟩⟩⟩⟩⟩⟩⟩⟩⟩⟩⟩⟩⟩⟩⟩⟩⟩⟩⟩⟩⟩)
@[simp] def body (fr : AFr) (H : AHeap) : ARes :=
  s' (r0 fr H) ⟨fun fr H =>
 s' (r1 fr H) ⟨fun fr H =>
 some (.ret, fr, H)⟩⟩
@[simp] def res (fr : AFr) (H : AHeap) : Option (List AV) := res2 (some (fr 4)) (some [])
end ref07_Control
def ref07_Control (a0 a1 : AV) : Option AV := closeUpR (some [[none]]) (afinR ref07_Control.res (ref07_Control.body (args0 [a0, a1]) AHeap.empty))
def ref07_Control.spec : List AV → Option AV
  | [a0, a1] => ref07_Control a0 a1
  | _ => none
namespace ref07_Step
def C (s0 s1 : SpecM) (s2 s3 : SpecP) : Tab := ((((Tab.none.add 18 (.ref [true, false] s0)).add 56 (.ref [false, false] s1)).add 57 (.pure false s2)).add 24 (.pure false s3))
@[simp] def r0 (fr : AFr) (H : AHeap) : ARes :=
 areg (o' (abox T.ty_api_State (fr 0) H) ⟨fun v2 H =>
 o' (aallocR T.ty_api_State (some (.agg [(W32 0#32), (W32 0#32), (W32 0#32), (W32 0#32), (W32 0#32), (W32 0#32), (W32 0#32), (W32 0#32), (W32 0#32), (.bool false), (.bool false), (.bool false), (.bool false)])) H) ⟨fun v4 H =>
 o' (aallocR T.ty_api_Leak (some (.agg [(W32 0#32), (W16 0#16), (W32 0#32), (W32 0#32), (W32 0#32), (W32 0#32), (W32 0#32), (W32 0#32), (.bool false), (.bool false)])) H) ⟨fun v5 H =>
 e' [(1, fr 1), (2, v2), (4, v4), (5, v5)] H⟩⟩⟩)
@[simp] def r1 (fr : AFr) (H : AHeap) : ARes :=
 areg (q' (anil (fr 1)) H ⟨fun v22 H =>
 q' (fa' 4 v22) H ⟨fun v23 H =>
 q' (ld' v23 H) H ⟨fun v24 H =>
 e' [(1, fr 1), (2, fr 2), (4, fr 4), (5, fr 5), (8, v24)] H⟩⟩⟩)
@[simp] def r2 (s0 : SpecM) (fr : AFr) (H : AHeap) : ARes :=
 areg (q' (Ld' 13 (fr 2) H) H ⟨fun v26 H =>
 o' (callM [true, false] s0 [[none, none, none, none, none, none, none, none, none, none, none, none, none], [none]] [v26, (fr 1)] H) ⟨fun v28 H =>
 q' (aextract v28 0) H ⟨fun v29 H =>
 q' (aextract v28 1) H ⟨fun v30 H =>
 q' (aextract v28 2) H ⟨fun v31 H =>
 o' (aallocR T.ty_api_State (some (.agg [(W32 0#32), (W32 0#32), (W32 0#32), (W32 0#32), (W32 0#32), (W32 0#32), (W32 0#32), (W32 0#32), (W32 0#32), (.bool false), (.bool false), (.bool false), (.bool false)])) H) ⟨fun v9 H =>
 w' (astoreR (some 13) v9 v29 H) ⟨fun _ H =>
 e' [(1, fr 1), (2, fr 2), (4, fr 4), (5, fr 5), (8, fr 8), (9, v9), (10, v30), (11, v31)] H⟩⟩⟩⟩⟩⟩⟩)
@[simp] def r3 (fr : AFr) (H : AHeap) : ARes :=
 areg (q' (bn' .neq (fr 11) (.int .i64 0)) H ⟨fun v33 H =>
 e' [(1, fr 1), (2, fr 2), (4, fr 4), (5, fr 5), (8, fr 8), (9, fr 9), (10, fr 10), (11, fr 11), (33, v33)] H⟩)
@[simp] def r4 (fr : AFr) (H : AHeap) : ARes :=
 areg (q' (Ld' 13 (fr 9) H) H ⟨fun v34 H =>
 q' (abuildR (.str [(W32 0#32), (W16 0#16), (W32 0#32), (W32 0#32), (W32 0#32), (W32 0#32), (W32 0#32), (W32 0#32), (.bool false), (.bool false)] [(0, 1), (1, 1), (2, 1), (3, 1), (4, 1), (5, 1), (6, 1), (7, 1), (8, 1), (9, 1)]) []) H ⟨fun v35 H =>
 w' (astoreR (some 13) (fr 4) v34 H) ⟨fun _ H =>
 w' (astoreR (some 10) (fr 5) v35 H) ⟨fun _ H =>
 e' [(4, fr 4), (5, fr 5), (6, (fr 10)), (7, (fr 11))] H⟩⟩⟩⟩)
@[simp] def r5 (s1 : SpecM) (fr : AFr) (H : AHeap) : ARes :=
 areg (q' (fa' 8 (fr 2)) H ⟨fun v40 H =>
 q' (ld' v40 H) H ⟨fun v41 H =>
 o' (callM [false, false] s1 [[none], [none]] [(fr 1), v41] H) ⟨fun v42 H =>
 q' (aextract v42 0) H ⟨fun v43 H =>
 q' (aextract v42 1) H ⟨fun v44 H =>
 e' [(2, fr 2), (4, fr 4), (5, fr 5), (8, fr 8), (9, fr 9), (10, fr 10), (12, v43)] H⟩⟩⟩⟩⟩)
@[simp] def r6 (s2 : SpecP) (fr : AFr) (H : AHeap) : ARes :=
 areg (o' (callP false s2 [[none]] [(fr 12)] H) ⟨fun v47 H =>
 q' (aextract v47 0) H ⟨fun v48 H =>
 q' (aextract v47 1) H ⟨fun v49 H =>
 o' (aallocR T.ty_api_Ins (some (.agg [(.int .i64 0), (.int .i64 0), (.int .i64 0), (.int .i64 0), (.int .i64 0)])) H) ⟨fun v14 H =>
 w' (astoreR (some 5) v14 v48 H) ⟨fun _ H =>
 e' [(2, fr 2), (4, fr 4), (5, fr 5), (8, fr 8), (9, fr 9), (10, fr 10), (12, fr 12), (14, v14)] H⟩⟩⟩⟩⟩)
@[simp] def r7 (fr : AFr) (H : AHeap) : ARes :=
 areg (q' (fa' 8 (fr 2)) H ⟨fun v50 H =>
 q' (ld' v50 H) H ⟨fun v51 H =>
 q' (abuildR (.str [(W32 0#32), (W16 0#16), (W32 0#32), (W32 0#32), (W32 0#32), (W32 0#32), (W32 0#32), (W32 0#32), (.bool false), (.bool false)] [(0, 1), (1, 1), (2, 1), (3, 1), (4, 1), (5, 1), (6, 1), (7, 1), (8, 1), (9, 1)]) [(0, v51), (1, (fr 12)), (6, (fr 8))]) H ⟨fun v54 H =>
 o' (aallocR T.ty_api_Leak (some (.agg [(W32 0#32), (W16 0#16), (W32 0#32), (W32 0#32), (W32 0#32), (W32 0#32), (W32 0#32), (W32 0#32), (.bool false), (.bool false)])) H) ⟨fun v16 H =>
 w' (astoreR (some 10) v16 v54 H) ⟨fun _ H =>
 e' [(2, fr 2), (4, fr 4), (5, fr 5), (9, fr 9), (10, fr 10), (14, fr 14), (16, v16)] H⟩⟩⟩⟩⟩)
@[simp] def r8 (fr : AFr) (H : AHeap) : ARes :=
 areg (q' (fa' 0 (fr 14)) H ⟨fun v55 H1 =>
 q' (ld' v55 H1) H1 ⟨fun v56 H2 =>
 q' (fa' 4 (fr 14)) H2 ⟨fun v57 H3 =>
 q' (ld' v57 H3) H3 ⟨fun v58 H4 =>
 q' (aconvR (some .u32) v58) H4 ⟨fun v59 H5 =>
 q' (some v56) H5 ⟨fun v17 H6 =>
 q' (some v59) H6 ⟨fun v18 H7 =>
 e' [(2, fr 2), (4, fr 4), (5, fr 5), (9, fr 9), (10, fr 10), (14, fr 14), (16, fr 16), (17, v17), (18, v18)] H7⟩⟩⟩⟩⟩⟩⟩)
@[simp] def r9 (fr : AFr) (H : AHeap) : ARes :=
 areg (q' (bn' .leq (fr 17) (.int .i64 3)) H ⟨fun v61 H =>
 G' v61 false ⟨some (fr 17)⟩ H ⟨fun v63 H =>
 G' v61 false ⟨bn' .geq v63 (.int .i64 4)⟩ H ⟨fun v64 H =>
 G' v61 false ⟨some v64⟩ H ⟨fun v65 H =>
 G' v65 true ⟨some (fr 17)⟩ H ⟨fun v66 H =>
 G' v65 true ⟨bn' .leq v66 (.int .i64 6)⟩ H ⟨fun v67 H =>
 G' v61 false ⟨apick v65 v67 (.bool false)⟩ H ⟨fun v68 H =>
 q' (apick v61 (.bool true) v68) H ⟨fun v69 H =>
 G' v69 false ⟨some (fr 17)⟩ H ⟨fun v71 H =>
 G' v69 false ⟨bn' .eql v71 (.int .i64 9)⟩ H ⟨fun v72 H =>
 q' (apick v69 (.bool true) v72) H ⟨fun v73 H =>
 G' v73 false ⟨some (fr 17)⟩ H ⟨fun v75 H =>
 G' v73 false ⟨bn' .eql v75 (.int .i64 10)⟩ H ⟨fun v76 H =>
 q' (apick v73 (.bool true) v76) H ⟨fun v77 H =>
 e' [(2, fr 2), (4, fr 4), (5, fr 5), (9, fr 9), (10, fr 10), (14, fr 14), (16, fr 16), (17, fr 17), (18, fr 18), (77, v77)] H⟩⟩⟩⟩⟩⟩⟩⟩⟩⟩⟩⟩⟩⟩)
@[simp] def r10 (fr : AFr) (H : AHeap) : ARes :=
 areg (q' (fa' 3 (fr 16)) H ⟨fun v79 H =>
 w' (astoreR (some 1) v79 (fr 18) H) ⟨fun _ H =>
 e' [(2, fr 2), (4, fr 4), (5, fr 5), (9, fr 9), (10, fr 10), (14, fr 14), (16, fr 16), (17, fr 17), (18, fr 18)] H⟩⟩)
@[simp] def r11 (fr : AFr) (H : AHeap) : ARes :=
 areg (q' (bn' .geq (fr 17) (.int .i64 1)) H ⟨fun v81 H =>
 G' v81 true ⟨some (fr 17)⟩ H ⟨fun v83 H =>
 G' v81 true ⟨bn' .leq v83 (.int .i64 3)⟩ H ⟨fun v84 H =>
 q' (apick v81 v84 (.bool false)) H ⟨fun v85 H =>
 G' v85 false ⟨some (fr 17)⟩ H ⟨fun v87 H =>
 G' v85 false ⟨bn' .eql v87 (.int .i64 11)⟩ H ⟨fun v88 H =>
 q' (apick v85 (.bool true) v88) H ⟨fun v89 H =>
 G' v89 false ⟨some (fr 17)⟩ H ⟨fun v91 H =>
 G' v89 false ⟨bn' .eql v91 (.int .i64 13)⟩ H ⟨fun v92 H =>
 q' (apick v89 (.bool true) v92) H ⟨fun v93 H =>
 G' v93 false ⟨some (fr 17)⟩ H ⟨fun v95 H =>
 G' v93 false ⟨bn' .eql v95 (.int .i64 15)⟩ H ⟨fun v96 H =>
 q' (apick v93 (.bool true) v96) H ⟨fun v97 H =>
 e' [(2, fr 2), (4, fr 4), (5, fr 5), (9, fr 9), (10, fr 10), (14, fr 14), (16, fr 16), (17, fr 17), (18, fr 18), (97, v97)] H⟩⟩⟩⟩⟩⟩⟩⟩⟩⟩⟩⟩⟩)
@[simp] def r12 (fr : AFr) (H : AHeap) : ARes :=
 areg (q' (fa' 1 (fr 14)) H ⟨fun v98 H =>
 q' (ld' v98 H) H ⟨fun v99 H =>
 q' (fa' 0 (fr 2)) H ⟨fun v100 H =>
 q' (aindexAddrR (.arr 8 1) v100 v99) H ⟨fun v101 H =>
 q' (ld' v101 H) H ⟨fun v102 H =>
 q' (fa' 2 (fr 16)) H ⟨fun v103 H =>
 w' (astoreR (some 1) v103 v102 H) ⟨fun _ H =>
 e' [(2, fr 2), (4, fr 4), (5, fr 5), (9, fr 9), (10, fr 10), (14, fr 14), (16, fr 16), (17, fr 17), (18, fr 18)] H⟩⟩⟩⟩⟩⟩⟩)
@[simp] def r13 (fr : AFr) (H : AHeap) : ARes :=
 areg (q' (bn' .geq (fr 17) (.int .i64 4)) H ⟨fun v105 H =>
 G' v105 true ⟨some (fr 17)⟩ H ⟨fun v107 H =>
 G' v105 true ⟨bn' .leq v107 (.int .i64 6)⟩ H ⟨fun v108 H =>
 q' (apick v105 v108 (.bool false)) H ⟨fun v109 H =>
 e' [(2, fr 2), (4, fr 4), (5, fr 5), (9, fr 9), (10, fr 10), (14, fr 14), (16, fr 16), (17, fr 17), (18, fr 18), (109, v109)] H⟩⟩⟩⟩)
@[simp] def r14 (fr : AFr) (H : AHeap) : ARes :=
 areg (q' (fa' 3 (fr 14)) H ⟨fun v110 H =>
 q' (ld' v110 H) H ⟨fun v111 H =>
 q' (fa' 0 (fr 2)) H ⟨fun v112 H =>
 q' (aindexAddrR (.arr 8 1) v112 v111) H ⟨fun v113 H =>
 q' (ld' v113 H) H ⟨fun v114 H =>
 q' (fa' 2 (fr 16)) H ⟨fun v115 H =>
 w' (astoreR (some 1) v115 v114 H) ⟨fun _ H =>
 e' [(2, fr 2), (4, fr 4), (5, fr 5), (9, fr 9), (10, fr 10), (14, fr 14), (16, fr 16), (17, fr 17), (18, fr 18)] H⟩⟩⟩⟩⟩⟩⟩)
@[simp] def r15 (fr : AFr) (H : AHeap) : ARes :=
 areg (q' (bn' .geq (fr 17) (.int .i64 7)) H ⟨fun v117 H =>
 G' v117 true ⟨some (fr 17)⟩ H ⟨fun v119 H =>
 G' v117 true ⟨bn' .leq v119 (.int .i64 10)⟩ H ⟨fun v120 H =>
 q' (apick v117 v120 (.bool false)) H ⟨fun v121 H =>
 G' v121 false ⟨some (fr 17)⟩ H ⟨fun v123 H =>
 G' v121 false ⟨bn' .eql v123 (.int .i64 12)⟩ H ⟨fun v124 H =>
 q' (apick v121 (.bool true) v124) H ⟨fun v125 H =>
 G' v125 false ⟨some (fr 17)⟩ H ⟨fun v127 H =>
 G' v125 false ⟨bn' .eql v127 (.int .i64 14)⟩ H ⟨fun v128 H =>
 q' (apick v125 (.bool true) v128) H ⟨fun v129 H =>
 e' [(2, fr 2), (4, fr 4), (5, fr 5), (9, fr 9), (10, fr 10), (14, fr 14), (16, fr 16), (17, fr 17), (18, fr 18), (129, v129)] H⟩⟩⟩⟩⟩⟩⟩⟩⟩⟩)
@[simp] def r16 (fr : AFr) (H : AHeap) : ARes :=
 areg (q' (fa' 2 (fr 14)) H ⟨fun v130 H =>
 q' (ld' v130 H) H ⟨fun v131 H =>
 q' (fa' 0 (fr 2)) H ⟨fun v132 H =>
 q' (aindexAddrR (.arr 8 1) v132 v131) H ⟨fun v133 H =>
 q' (ld' v133 H) H ⟨fun v134 H =>
 q' (fa' 2 (fr 16)) H ⟨fun v135 H =>
 w' (astoreR (some 1) v135 v134 H) ⟨fun _ H =>
 e' [(2, fr 2), (4, fr 4), (5, fr 5), (9, fr 9), (10, fr 10), (14, fr 14), (16, fr 16), (17, fr 17), (18, fr 18)] H⟩⟩⟩⟩⟩⟩⟩)
@[simp] def r17 (fr : AFr) (H : AHeap) : ARes :=
 areg (q' (bn' .eql (fr 17) (.int .i64 7)) H ⟨fun v137 H =>
 G' v137 false ⟨some (fr 17)⟩ H ⟨fun v139 H =>
 G' v137 false ⟨bn' .eql v139 (.int .i64 8)⟩ H ⟨fun v140 H =>
 q' (apick v137 (.bool true) v140) H ⟨fun v141 H =>
 G' v141 false ⟨some (fr 17)⟩ H ⟨fun v143 H =>
 G' v141 false ⟨bn' .eql v143 (.int .i64 11)⟩ H ⟨fun v144 H =>
 q' (apick v141 (.bool true) v144) H ⟨fun v145 H =>
 G' v145 false ⟨some (fr 17)⟩ H ⟨fun v147 H =>
 G' v145 false ⟨bn' .eql v147 (.int .i64 14)⟩ H ⟨fun v148 H =>
 q' (apick v145 (.bool true) v148) H ⟨fun v149 H =>
 e' [(2, fr 2), (4, fr 4), (5, fr 5), (9, fr 9), (10, fr 10), (14, fr 14), (16, fr 16), (17, fr 17), (18, fr 18), (149, v149)] H⟩⟩⟩⟩⟩⟩⟩⟩⟩⟩)
@[simp] def r18 (fr : AFr) (H : AHeap) : ARes :=
 areg (q' (fa' 3 (fr 14)) H ⟨fun v150 H =>
 q' (ld' v150 H) H ⟨fun v151 H =>
 q' (fa' 0 (fr 2)) H ⟨fun v152 H =>
 q' (aindexAddrR (.arr 8 1) v152 v151) H ⟨fun v153 H =>
 q' (ld' v153 H) H ⟨fun v154 H =>
 q' (fa' 3 (fr 16)) H ⟨fun v155 H =>
 w' (astoreR (some 1) v155 v154 H) ⟨fun _ H =>
 e' [(2, fr 2), (4, fr 4), (5, fr 5), (9, fr 9), (10, fr 10), (14, fr 14), (16, fr 16), (17, fr 17), (18, fr 18)] H⟩⟩⟩⟩⟩⟩⟩)
@[simp] def r19 (fr : AFr) (H : AHeap) : ARes :=
 areg (q' (bn' .eql (fr 17) (.int .i64 12)) H ⟨fun v157 H =>
 e' [(2, fr 2), (4, fr 4), (5, fr 5), (9, fr 9), (10, fr 10), (14, fr 14), (16, fr 16), (17, fr 17), (18, fr 18), (157, v157)] H⟩)
@[simp] def r20 (fr : AFr) (H : AHeap) : ARes :=
 areg (q' (bn' .mul (W32 4#32) (fr 18)) H ⟨fun v159 H =>
 q' (fa' 3 (fr 16)) H ⟨fun v160 H =>
 w' (astoreR (some 1) v160 v159 H) ⟨fun _ H =>
 e' [(2, fr 2), (4, fr 4), (5, fr 5), (9, fr 9), (10, fr 10), (14, fr 14), (16, fr 16), (17, fr 17), (18, fr 18)] H⟩⟩⟩)
@[simp] def r21 (fr : AFr) (H : AHeap) : ARes :=
 areg (q' (bn' .geq (fr 17) (.int .i64 12)) H ⟨fun v162 H =>
 G' v162 true ⟨some (fr 17)⟩ H ⟨fun v164 H =>
 G' v162 true ⟨bn' .leq v164 (.int .i64 16)⟩ H ⟨fun v165 H =>
 q' (apick v162 v165 (.bool false)) H ⟨fun v166 H =>
 q' (fa' 8 (fr 16)) H ⟨fun v167 H =>
 w' (astoreR (some 1) v167 v166 H) ⟨fun _ H =>
 e' [(2, fr 2), (4, fr 4), (5, fr 5), (9, fr 9), (10, fr 10), (14, fr 14), (16, fr 16), (17, fr 17), (18, fr 18)] H⟩⟩⟩⟩⟩⟩)
@[simp] def r22 (fr : AFr) (H : AHeap) : ARes :=
 areg (q' (bn' .eql (fr 17) (.int .i64 12)) H ⟨fun v169 H =>
 G' v169 false ⟨some (fr 17)⟩ H ⟨fun v171 H =>
 G' v169 false ⟨bn' .eql v171 (.int .i64 13)⟩ H ⟨fun v172 H =>
 q' (apick v169 (.bool true) v172) H ⟨fun v173 H =>
 e' [(2, fr 2), (4, fr 4), (5, fr 5), (9, fr 9), (10, fr 10), (14, fr 14), (16, fr 16), (17, fr 17), (18, fr 18), (173, v173)] H⟩⟩⟩⟩)
@[simp] def r23 (fr : AFr) (H : AHeap) : ARes :=
 areg (q' (fa' 2 (fr 14)) H ⟨fun v174 H =>
 q' (ld' v174 H) H ⟨fun v175 H =>
 q' (fa' 0 (fr 2)) H ⟨fun v176 H =>
 q' (aindexAddrR (.arr 8 1) v176 v175) H ⟨fun v177 H =>
 q' (ld' v177 H) H ⟨fun v178 H =>
 q' (bn' .mul (W32 4#32) (fr 18)) H ⟨fun v180 H =>
 q' (bn' .add v178 v180) H ⟨fun v181 H =>
 q' (fa' 7 (fr 16)) H ⟨fun v182 H =>
 w' (astoreR (some 1) v182 v181 H) ⟨fun _ H =>
 e' [(2, fr 2), (4, fr 4), (5, fr 5), (9, fr 9), (10, fr 10), (14, fr 14), (16, fr 16), (17, fr 17), (18, fr 18)] H⟩⟩⟩⟩⟩⟩⟩⟩⟩)
@[simp] def r24 (fr : AFr) (H : AHeap) : ARes :=
 areg (q' (bn' .eql (fr 17) (.int .i64 14)) H ⟨fun v184 H =>
 G' v184 false ⟨some (fr 17)⟩ H ⟨fun v186 H =>
 G' v184 false ⟨bn' .eql v186 (.int .i64 15)⟩ H ⟨fun v187 H =>
 q' (apick v184 (.bool true) v187) H ⟨fun v188 H =>
 e' [(2, fr 2), (4, fr 4), (5, fr 5), (9, fr 9), (10, fr 10), (14, fr 14), (16, fr 16), (17, fr 17), (18, fr 18), (188, v188)] H⟩⟩⟩⟩)
@[simp] def r25 (fr : AFr) (H : AHeap) : ARes :=
 areg (q' (fa' 2 (fr 14)) H ⟨fun v189 H1 =>
 q' (ld' v189 H1) H1 ⟨fun v190 H2 =>
 q' (fa' 0 (fr 2)) H2 ⟨fun v191 H3 =>
 q' (aindexAddrR (.arr 8 1) v191 v190) H3 ⟨fun v192 H4 =>
 q' (ld' v192 H4) H4 ⟨fun v193 H5 =>
 q' (fa' 3 (fr 14)) H5 ⟨fun v194 H6 =>
 q' (ld' v194 H6) H6 ⟨fun v195 H7 =>
 q' (fa' 0 (fr 2)) H7 ⟨fun v196 H8 =>
 q' (aindexAddrR (.arr 8 1) v196 v195) H8 ⟨fun v197 H9 =>
 q' (ld' v197 H9) H9 ⟨fun v198 H10 =>
 q' (bn' .add v193 v198) H10 ⟨fun v199 H11 =>
 q' (fa' 7 (fr 16)) H11 ⟨fun v200 H12 =>
 w' (astoreR (some 1) v200 v199 H12) ⟨fun _ H13 =>
 e' [(2, fr 2), (4, fr 4), (5, fr 5), (9, fr 9), (10, fr 10), (14, fr 14), (16, fr 16), (17, fr 17), (18, fr 18)] H13⟩⟩⟩⟩⟩⟩⟩⟩⟩⟩⟩⟩⟩)
@[simp] def r26 (fr : AFr) (H : AHeap) : ARes :=
 areg (q' (bn' .eql (fr 17) (.int .i64 16)) H ⟨fun v202 H =>
 e' [(2, fr 2), (4, fr 4), (5, fr 5), (9, fr 9), (10, fr 10), (14, fr 14), (16, fr 16), (17, fr 17), (18, fr 18), (202, v202)] H⟩)
@[simp] def r27 (fr : AFr) (H : AHeap) : ARes :=
 areg (q' (fa' 8 (fr 2)) H ⟨fun v203 H =>
 q' (ld' v203 H) H ⟨fun v204 H =>
 q' (bn' .add v204 (W32 4#32)) H ⟨fun v205 H =>
 q' (bn' .quo v205 (W32 4#32)) H ⟨fun v206 H =>
 q' (bn' .mul v206 (W32 4#32)) H ⟨fun v207 H =>
 q' (bn' .mul (W32 4#32) (fr 18)) H ⟨fun v209 H =>
 q' (bn' .add v207 v209) H ⟨fun v210 H =>
 q' (fa' 7 (fr 16)) H ⟨fun v211 H =>
 w' (astoreR (some 1) v211 v210 H) ⟨fun _ H =>
 e' [(2, fr 2), (4, fr 4), (5, fr 5), (9, fr 9), (10, fr 10), (14, fr 14), (16, fr 16), (17, fr 17)] H⟩⟩⟩⟩⟩⟩⟩⟩⟩)
@[simp] def r28 (fr : AFr) (H : AHeap) : ARes :=
 areg (q' (bn' .eql (fr 17) (.int .i64 12)) H ⟨fun v213 H =>
 G' v213 false ⟨some (fr 17)⟩ H ⟨fun v215 H =>
 G' v213 false ⟨bn' .eql v215 (.int .i64 14)⟩ H ⟨fun v216 H =>
 q' (apick v213 (.bool true) v216) H ⟨fun v217 H =>
 G' v217 false ⟨some (fr 17)⟩ H ⟨fun v219 H =>
 G' v217 false ⟨bn' .eql v219 (.int .i64 16)⟩ H ⟨fun v220 H =>
 q' (apick v217 (.bool true) v220) H ⟨fun v221 H =>
 G' v221 true ⟨fa' 7 (fr 16)⟩ H ⟨fun v223 H =>
 G' v221 true ⟨ld' v223 H⟩ H ⟨fun v224 H =>
 G' v221 true ⟨bn' .eql v224 (W32 1073741824#32)⟩ H ⟨fun v225 H =>
 q' (apick v221 v225 (.bool false)) H ⟨fun v226 H =>
 q' (fa' 9 (fr 16)) H ⟨fun v227 H =>
 w' (astoreR (some 1) v227 v226 H) ⟨fun _ H =>
 e' [(2, fr 2), (4, fr 4), (5, fr 5), (9, fr 9), (10, fr 10), (14, fr 14), (16, fr 16), (17, fr 17)] H⟩⟩⟩⟩⟩⟩⟩⟩⟩⟩⟩⟩⟩)
@[simp] def r29 (s3 : SpecP) (fr : AFr) (H : AHeap) : ARes :=
 areg (q' (Ld' 5 (fr 14) H) H ⟨fun v229 H =>
 o' (callP false s3 [[none, none, none, none, none]] [v229] H) ⟨fun v230 H =>
 q' (aextract v230 0) H ⟨fun v231 H =>
 q' (aextract v230 1) H ⟨fun v232 H =>
 e' [(2, fr 2), (4, fr 4), (5, fr 5), (9, fr 9), (10, fr 10), (14, fr 14), (16, fr 16), (17, fr 17), (19, v231), (20, v232)] H⟩⟩⟩⟩)
@[simp] def r30 (fr : AFr) (H : AHeap) : ARes :=
 areg (e' [(2, fr 2), (4, fr 4), (5, fr 5), (9, fr 9), (10, fr 10), (14, fr 14), (16, fr 16), (17, fr 17), (19, fr 19), (233, (fr 20))] H)
@[simp] def r31 (fr : AFr) (H : AHeap) : ARes :=
 areg (q' (some (fr 19)) H ⟨fun v234 H1 =>
 q' (fa' 0 (fr 9)) H1 ⟨fun v235 H2 =>
 q' (aindexAddrR (.arr 8 1) v235 v234) H2 ⟨fun v236 H3 =>
 q' (ld' v236 H3) H3 ⟨fun v237 H4 =>
 q' (some (fr 19)) H4 ⟨fun v238 H5 =>
 q' (fa' 0 (fr 2)) H5 ⟨fun v239 H6 =>
 q' (aindexAddrR (.arr 8 1) v239 v238) H6 ⟨fun v240 H7 =>
 q' (ld' v240 H7) H7 ⟨fun v241 H8 =>
 q' (fa' 4 (fr 16)) H8 ⟨fun v242 H9 =>
 w' (astoreR (some 1) v242 v237 H9) ⟨fun _ H10 =>
 q' (fa' 5 (fr 16)) H10 ⟨fun v243 H11 =>
 w' (astoreR (some 1) v243 v241 H11) ⟨fun _ H12 =>
 withChk [aloadR (some none) v240 H9 = aloadR (some none) v240 H10] (e' [(4, fr 4), (5, fr 5), (9, fr 9), (10, fr 10), (14, fr 14), (16, fr 16), (17, fr 17)] H12)⟩⟩⟩⟩⟩⟩⟩⟩⟩⟩⟩⟩)
@[simp] def r32 (fr : AFr) (H : AHeap) : ARes :=
 areg (q' (bn' .eql (fr 17) (.int .i64 13)) H ⟨fun v245 H =>
 G' v245 false ⟨some (fr 17)⟩ H ⟨fun v247 H =>
 G' v245 false ⟨bn' .eql v247 (.int .i64 15)⟩ H ⟨fun v248 H =>
 q' (apick v245 (.bool true) v248) H ⟨fun v249 H =>
 e' [(4, fr 4), (5, fr 5), (9, fr 9), (10, fr 10), (14, fr 14), (16, fr 16), (17, fr 17), (249, v249)] H⟩⟩⟩⟩)
@[simp] def r33 (fr : AFr) (H : AHeap) : ARes :=
 areg (q' (fa' 2 (fr 16)) H ⟨fun v250 H =>
 q' (ld' v250 H) H ⟨fun v251 H =>
 q' (fa' 4 (fr 16)) H ⟨fun v252 H =>
 w' (astoreR (some 1) v252 v251 H) ⟨fun _ H =>
 e' [(4, fr 4), (5, fr 5), (9, fr 9), (10, fr 10), (14, fr 14), (16, fr 16), (17, fr 17)] H⟩⟩⟩⟩)
@[simp] def r34 (fr : AFr) (H : AHeap) : ARes :=
 areg (q' (bn' .eql (fr 17) (.int .i64 1)) H ⟨fun v254 H =>
 G' v254 false ⟨some (fr 17)⟩ H ⟨fun v256 H =>
 G' v254 false ⟨bn' .eql v256 (.int .i64 11)⟩ H ⟨fun v257 H =>
 G' v254 false ⟨some v257⟩ H ⟨fun v258 H =>
 G' v258 true ⟨fa' 4 (fr 14)⟩ H ⟨fun v259 H =>
 G' v258 true ⟨ld' v259 H⟩ H ⟨fun v260 H =>
 G' v258 true ⟨bn' .eql v260 (.int .i64 10)⟩ H ⟨fun v261 H =>
 G' v254 false ⟨apick v258 v261 (.bool false)⟩ H ⟨fun v262 H =>
 q' (apick v254 (.bool true) v262) H ⟨fun v263 H =>
 e' [(4, fr 4), (5, fr 5), (9, fr 9), (10, fr 10), (14, fr 14), (16, fr 16), (17, fr 17), (263, v263)] H⟩⟩⟩⟩⟩⟩⟩⟩⟩)
@[simp] def r35 (fr : AFr) (H : AHeap) : ARes :=
 areg (q' (fa' 2 (fr 16)) H ⟨fun v264 H =>
 q' (ld' v264 H) H ⟨fun v265 H =>
 q' (fa' 3 (fr 16)) H ⟨fun v266 H =>
 q' (ld' v266 H) H ⟨fun v267 H =>
 q' (bn' .sub v265 v267) H ⟨fun v268 H =>
 q' (fa' 4 (fr 16)) H ⟨fun v269 H =>
 w' (astoreR (some 1) v269 v268 H) ⟨fun _ H =>
 e' [(4, fr 4), (5, fr 5), (9, fr 9), (10, fr 10), (14, fr 14), (16, fr 16), (17, fr 17)] H⟩⟩⟩⟩⟩⟩⟩)
@[simp] def r36 (fr : AFr) (H : AHeap) : ARes :=
 areg (q' (bn' .eql (fr 17) (.int .i64 11)) H ⟨fun v271 H =>
 G' v271 true ⟨fa' 4 (fr 14)⟩ H ⟨fun v273 H =>
 G' v271 true ⟨ld' v273 H⟩ H ⟨fun v274 H =>
 G' v271 true ⟨bn' .eql v274 (.int .i64 8)⟩ H ⟨fun v275 H =>
 q' (apick v271 v275 (.bool false)) H ⟨fun v276 H =>
 e' [(4, fr 4), (5, fr 5), (9, fr 9), (10, fr 10), (14, fr 14), (16, fr 16), (17, fr 17), (276, v276)] H⟩⟩⟩⟩⟩)
@[simp] def r37 (fr : AFr) (H : AHeap) : ARes :=
 areg (q' (fa' 2 (fr 16)) H ⟨fun v277 H =>
 q' (ld' v277 H) H ⟨fun v278 H =>
 q' (fa' 3 (fr 16)) H ⟨fun v279 H =>
 q' (ld' v279 H) H ⟨fun v280 H =>
 q' (bn' .and v278 v280) H ⟨fun v281 H =>
 q' (fa' 4 (fr 16)) H ⟨fun v282 H =>
 w' (astoreR (some 1) v282 v281 H) ⟨fun _ H =>
 e' [(4, fr 4), (5, fr 5), (9, fr 9), (10, fr 10), (14, fr 14), (16, fr 16), (17, fr 17)] H⟩⟩⟩⟩⟩⟩⟩)
@[simp] def r38 (fr : AFr) (H : AHeap) : ARes :=
 areg (q' (bn' .eql (fr 17) (.int .i64 11)) H ⟨fun v284 H =>
 G' v284 true ⟨fa' 4 (fr 14)⟩ H ⟨fun v286 H =>
 G' v284 true ⟨ld' v286 H⟩ H ⟨fun v287 H =>
 G' v284 true ⟨bn' .eql v287 (.int .i64 11)⟩ H ⟨fun v288 H =>
 q' (apick v284 v288 (.bool false)) H ⟨fun v289 H =>
 e' [(4, fr 4), (5, fr 5), (9, fr 9), (10, fr 10), (16, fr 16), (289, v289)] H⟩⟩⟩⟩⟩)
@[simp] def r39 (fr : AFr) (H : AHeap) : ARes :=
 areg (q' (fa' 2 (fr 16)) H ⟨fun v290 H =>
 q' (ld' v290 H) H ⟨fun v291 H =>
 q' (fa' 3 (fr 16)) H ⟨fun v292 H =>
 q' (ld' v292 H) H ⟨fun v293 H =>
 q' (bn' .add v291 v293) H ⟨fun v294 H =>
 q' (fa' 4 (fr 16)) H ⟨fun v295 H =>
 w' (astoreR (some 1) v295 v294 H) ⟨fun _ H =>
 e' [(4, fr 4), (5, fr 5), (9, fr 9), (10, fr 10), (16, fr 16)] H⟩⟩⟩⟩⟩⟩⟩)
@[simp] def r40 (fr : AFr) (H : AHeap) : ARes :=
 areg (q' (Ld' 13 (fr 9) H) H ⟨fun v296 H1 =>
 q' (Ld' 10 (fr 16) H1) H1 ⟨fun v297 H2 =>
 q' (some (fr 10)) H2 ⟨fun v298 H3 =>
 w' (astoreR (some 13) (fr 4) v296 H3) ⟨fun _ H4 =>
 w' (astoreR (some 10) (fr 5) v297 H4) ⟨fun _ H5 =>
 q' (some v298) H5 ⟨fun v6 H6 =>
 q' (some (.int .i64 0)) H6 ⟨fun v7 H7 =>
 withChk [aloadR (some (some 10)) (fr 16) H3 = aloadR (some (some 10)) (fr 16) H4] (e' [(4, fr 4), (5, fr 5), (6, v6), (7, v7)] H7)⟩⟩⟩⟩⟩⟩⟩)
@[simp] def body (s0 s1 : SpecM) (s2 s3 : SpecP) (fr : AFr) (H : AHeap) : ARes :=
  s' (r0 fr H) ⟨fun fr H =>
 s' (r1 fr H) ⟨fun fr H =>
 s' (r2 s0 fr H) ⟨fun fr H =>
 s' (s' (r3 fr H) ⟨fun fr H =>
 c' (fr 33)
 ⟨s' (r4 fr H) ⟨fun fr H =>
 some (.ret, fr, H)⟩⟩
 ⟨some (.normal, fr, H)⟩⟩) ⟨fun fr H =>
 s' (r5 s1 fr H) ⟨fun fr H =>
 s' (r6 s2 fr H) ⟨fun fr H =>
 s' (r7 fr H) ⟨fun fr H =>
 s' (r8 fr H) ⟨fun fr H =>
 s' (s' (r9 fr H) ⟨fun fr H =>
 c' (fr 77)
 ⟨r10 fr H⟩
 ⟨some (.normal, fr, H)⟩⟩) ⟨fun fr H =>
 s' (s' (r11 fr H) ⟨fun fr H =>
 c' (fr 97)
 ⟨r12 fr H⟩
 ⟨some (.normal, fr, H)⟩⟩) ⟨fun fr H =>
 s' (s' (r13 fr H) ⟨fun fr H =>
 c' (fr 109)
 ⟨r14 fr H⟩
 ⟨some (.normal, fr, H)⟩⟩) ⟨fun fr H =>
 s' (s' (r15 fr H) ⟨fun fr H =>
 c' (fr 129)
 ⟨r16 fr H⟩
 ⟨some (.normal, fr, H)⟩⟩) ⟨fun fr H =>
 s' (s' (r17 fr H) ⟨fun fr H =>
 c' (fr 149)
 ⟨r18 fr H⟩
 ⟨some (.normal, fr, H)⟩⟩) ⟨fun fr H =>
 s' (s' (r19 fr H) ⟨fun fr H =>
 c' (fr 157)
 ⟨r20 fr H⟩
 ⟨some (.normal, fr, H)⟩⟩) ⟨fun fr H =>
 s' (r21 fr H) ⟨fun fr H =>
 s' (s' (r22 fr H) ⟨fun fr H =>
 c' (fr 173)
 ⟨r23 fr H⟩
 ⟨some (.normal, fr, H)⟩⟩) ⟨fun fr H =>
 s' (s' (r24 fr H) ⟨fun fr H =>
 c' (fr 188)
 ⟨r25 fr H⟩
 ⟨some (.normal, fr, H)⟩⟩) ⟨fun fr H =>
 s' (s' (r26 fr H) ⟨fun fr H =>
 c' (fr 202)
 ⟨r27 fr H⟩
 ⟨some (.normal, fr, H)⟩⟩) ⟨fun fr H =>
 s' (r28 fr H) ⟨fun fr H =>
 s' (s' (r29 s3 fr H) ⟨fun fr H =>
 s' (r30 fr H) ⟨fun fr H =>
 c' (fr 233)
 ⟨r31 fr H⟩
 ⟨some (.normal, fr, H)⟩⟩⟩) ⟨fun fr H =>
 s' (s' (r32 fr H) ⟨fun fr H =>
 c' (fr 249)
 ⟨r33 fr H⟩
 ⟨some (.normal, fr, H)⟩⟩) ⟨fun fr H =>
 s' (s' (r34 fr H) ⟨fun fr H =>
 c' (fr 263)
 ⟨r35 fr H⟩
 ⟨some (.normal, fr, H)⟩⟩) ⟨fun fr H =>
 s' (s' (r36 fr H) ⟨fun fr H =>
 c' (fr 276)
 ⟨r37 fr H⟩
 ⟨some (.normal, fr, H)⟩⟩) ⟨fun fr H =>
 s' (s' (r38 fr H) ⟨fun fr H =>
 c' (fr 289)
 ⟨r39 fr H⟩
 ⟨some (.normal, fr, H)⟩⟩) ⟨fun fr H =>
 s' (r40 fr H) ⟨fun fr H =>
 some (.ret, fr, H)⟩⟩⟩⟩⟩⟩⟩⟩⟩⟩⟩⟩⟩⟩⟩⟩⟩⟩⟩⟩⟩⟩⟩⟩⟩
@[simp] def res (fr : AFr) (H : AHeap) : Option (List AV) := res2 (aloadR (some (some 13)) (fr 4) H) (res2 (aloadR (some (some 10)) (fr 5) H) (res2 (some (fr 6)) (res2 (some (fr 7)) (some []))))
end ref07_Step
def ref07_Step (a0 a1 : AV) (H : AHeap) : Option (AV × AHeap) := forget H (afinR ref07_Step.res (ref07_Step.body ref06_Step.spec ref05_Mem_Fetch.spec ref02_Take.spec ref02_Writes.spec (args0 [a0, a1]) H))
def ref07_Step.spec : List AV → AHeap → Option (AV × AHeap)
  | [a0, a1], H => ref07_Step a0 a1 H
  | _, _ => none
end
end Go.Abs
