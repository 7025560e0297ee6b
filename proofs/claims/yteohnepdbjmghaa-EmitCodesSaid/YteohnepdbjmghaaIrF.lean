/-
  The functions, as they are over abstract values. Printed by gen.py.
-/
import Derived.Test.YteohnepdbjmghaaLoF
set_option linter.unusedVariables false
namespace Go.Abs
noncomputable section
namespace ref19_Own
def C : Tab := Tab.none
@[simp] def r0 (fr : AFr) (H : AHeap) : ARes :=
 areg (o' (abox T.ty_api_Code (fr 0) H) ⟨fun v1 H =>
 o' (aallocR T.ty_api_Code (some (.agg [(.int .i64 0), .nils, .nils])) H) ⟨fun v2 H =>
 e' [(1, v1), (2, v2)] H⟩⟩)
@[simp] def r1 (fr : AFr) (H : AHeap) : ARes :=
 areg (q' (fa' 0 (fr 1)) H ⟨fun v3 H1 =>
 q' (ld' v3 H1) H1 ⟨fun v4 H2 =>
 o' (abuildSliceR (some ⟨T.ty_api_Op, 4, 32, [(.int .i64 0), (.int .i64 0), (.int .i64 0), (W32 0#32)]⟩) 0 [] H2) ⟨fun v5 H3 =>
 q' (fa' 1 (fr 1)) H3 ⟨fun v6 H4 =>
 q' (ld' v6 H4) H4 ⟨fun v7 H5 =>
 o' (aappendR (some ⟨T.ty_api_Op, 4, 32, [(.int .i64 0), (.int .i64 0), (.int .i64 0), (W32 0#32)]⟩) v5 v7 H5) ⟨fun v8 H6 =>
 o' (abuildSliceR (some ⟨T.ty_int, 1, 8, [(.int .i64 0)]⟩) 0 [] H6) ⟨fun v9 H7 =>
 q' (fa' 2 (fr 1)) H7 ⟨fun v10 H8 =>
 q' (ld' v10 H8) H8 ⟨fun v11 H9 =>
 o' (aappendR (some ⟨T.ty_int, 1, 8, [(.int .i64 0)]⟩) v9 v11 H9) ⟨fun v12 H10 =>
 q' (abuildR (.str [(.int .i64 0), .nils, .nils] [(0, 1), (1, 1), (2, 1)]) [(0, v4), (1, v8), (2, v12)]) H10 ⟨fun v13 H11 =>
 w' (astoreR (some 3) (fr 2) v13 H11) ⟨fun _ H12 =>
 withChk [aloadR (some none) v3 H5 = aloadR (some none) v3 H6, aloadR (some none) v3 H9 = aloadR (some none) v3 H10, aloadR (some none) v10 H5 = aloadR (some none) v10 H6] (e' [(2, fr 2)] H12)⟩⟩⟩⟩⟩⟩⟩⟩⟩⟩⟩⟩)
@[simp] def body (fr : AFr) (H : AHeap) : ARes :=
  s' (r0 fr H) ⟨fun fr H =>
 s' (r1 fr H) ⟨fun fr H =>
 some (.ret, fr, H)⟩⟩
@[simp] def res (fr : AFr) (H : AHeap) : Option (List AV) := res2 (aloadR (some (some 3)) (fr 2) H) (some [])
end ref19_Own
def ref19_Own (a0 : AV) : Option AV := closeUpR (some [[none, some 4, some 1]]) (afinR ref19_Own.res (ref19_Own.body (args0 [a0]) AHeap.empty))
def ref19_Own.spec : List AV → Option AV
  | [a0] => ref19_Own a0
  | _ => none
namespace ref19_Takes
def C : Tab := Tab.none
@[simp] def r0 (fr : AFr) (H : AHeap) : ARes :=
 areg (e' [(0, fr 0)] H)
@[simp] def r1 (fr : AFr) (H : AHeap) : ARes :=
 areg (q' (bn' .eql (fr 0) (.int .i64 1)) H ⟨fun v4 H =>
 G' v4 false ⟨some (fr 0)⟩ H ⟨fun v6 H =>
 G' v4 false ⟨bn' .eql v6 (.int .i64 2)⟩ H ⟨fun v7 H =>
 q' (apick v4 (.bool true) v7) H ⟨fun v8 H =>
 e' [(0, fr 0), (8, v8)] H⟩⟩⟩⟩)
@[simp] def r2 (fr : AFr) (H : AHeap) : ARes :=
 areg (e' [(2, (.int .i64 2))] H)
@[simp] def r3 (fr : AFr) (H : AHeap) : ARes :=
 areg (q' (bn' .geq (fr 0) (.int .i64 3)) H ⟨fun v10 H =>
 G' v10 true ⟨some (fr 0)⟩ H ⟨fun v12 H =>
 G' v10 true ⟨bn' .leq v12 (.int .i64 6)⟩ H ⟨fun v13 H =>
 q' (apick v10 v13 (.bool false)) H ⟨fun v14 H =>
 G' v14 false ⟨some (fr 0)⟩ H ⟨fun v16 H =>
 G' v14 false ⟨bn' .eql v16 (.int .i64 8)⟩ H ⟨fun v17 H =>
 q' (apick v14 (.bool true) v17) H ⟨fun v18 H =>
 e' [(18, v18)] H⟩⟩⟩⟩⟩⟩⟩)
@[simp] def r4 (fr : AFr) (H : AHeap) : ARes :=
 areg (e' [(2, (.int .i64 1))] H)
@[simp] def r5 (fr : AFr) (H : AHeap) : ARes :=
 areg (e' [(2, (.int .i64 0))] H)
@[simp] def body (fr : AFr) (H : AHeap) : ARes :=
  s' (r0 fr H) ⟨fun fr H =>
 s' (s' (r1 fr H) ⟨fun fr H =>
 c' (fr 8)
 ⟨s' (r2 fr H) ⟨fun fr H =>
 some (.ret, fr, H)⟩⟩
 ⟨some (.normal, fr, H)⟩⟩) ⟨fun fr H =>
 s' (s' (r3 fr H) ⟨fun fr H =>
 c' (fr 18)
 ⟨s' (r4 fr H) ⟨fun fr H =>
 some (.ret, fr, H)⟩⟩
 ⟨some (.normal, fr, H)⟩⟩) ⟨fun fr H =>
 s' (r5 fr H) ⟨fun fr H =>
 some (.ret, fr, H)⟩⟩⟩⟩
@[simp] def res (fr : AFr) (H : AHeap) : Option (List AV) := res2 (some (fr 2)) (some [])
end ref19_Takes
def ref19_Takes (a0 : AV) : Option AV := closeUpR (some [[none]]) (afinR ref19_Takes.res (ref19_Takes.body (args0 [a0]) AHeap.empty))
def ref19_Takes.spec : List AV → Option AV
  | [a0] => ref19_Takes a0
  | _ => none
namespace ref19_Can
def C (s0 : SpecP) : Tab := (Tab.none.add 74 (.pure false s0))
@[simp] def r0 (fr : AFr) (H : AHeap) : ARes :=
 areg (o' (abox T.ty_api_Code (fr 0) H) ⟨fun v1 H =>
 e' [(1, v1)] H⟩)
@[simp] def r1 (fr : AFr) (H : AHeap) : ARes :=
 areg (q' (fa' 0 (fr 1)) H ⟨fun v8 H =>
 q' (ld' v8 H) H ⟨fun v9 H =>
 q' (bn' .lss v9 (.int .i64 0)) H ⟨fun v10 H =>
 G' v10 false ⟨fa' 0 (fr 1)⟩ H ⟨fun v12 H =>
 G' v10 false ⟨ld' v12 H⟩ H ⟨fun v13 H =>
 G' v10 false ⟨bn' .gtr v13 (.int .i64 4000)⟩ H ⟨fun v14 H =>
 q' (apick v10 (.bool true) v14) H ⟨fun v15 H =>
 G' v15 false ⟨fa' 1 (fr 1)⟩ H ⟨fun v17 H =>
 G' v15 false ⟨ld' v17 H⟩ H ⟨fun v18 H =>
 G' v15 false ⟨alenR .sl v18⟩ H ⟨fun v19 H =>
 G' v15 false ⟨bn' .gtr v19 (.int .i64 60000)⟩ H ⟨fun v20 H =>
 q' (apick v15 (.bool true) v20) H ⟨fun v21 H =>
 e' [(1, fr 1), (21, v21)] H⟩⟩⟩⟩⟩⟩⟩⟩⟩⟩⟩⟩)
@[simp] def r2 (fr : AFr) (H : AHeap) : ARes :=
 areg (e' [(2, (.bool false))] H)
@[simp] def r3 (fr : AFr) (H : AHeap) : ARes :=
 areg (e' [(1, fr 1), (3, (.int .i64 0))] H)
@[simp] def r4 (fr : AFr) (H : AHeap) : ARes :=
 areg (q' (fa' 1 (fr 1)) H ⟨fun v23 H =>
 q' (ld' v23 H) H ⟨fun v24 H =>
 q' (alenR .sl v24) H ⟨fun v25 H =>
 q' (bn' .lss (fr 3) v25) H ⟨fun v26 H =>
 e' [(1, fr 1), (3, fr 3), (26, v26)] H⟩⟩⟩⟩)
@[simp] def r6 (fr : AFr) (H : AHeap) : ARes :=
 areg (q' (fa' 1 (fr 1)) H ⟨fun v29 H =>
 q' (ld' v29 H) H ⟨fun v30 H =>
 q' (aindexAddrR (.sl 4) v30 (fr 3)) H ⟨fun v32 H =>
 q' (Ld' 4 v32 H) H ⟨fun v33 H =>
 o' (aallocR T.ty_api_Op (some (.agg [(.int .i64 0), (.int .i64 0), (.int .i64 0), (W32 0#32)])) H) ⟨fun v4 H =>
 w' (astoreR (some 4) v4 v33 H) ⟨fun _ H =>
 e' [(1, fr 1), (3, fr 3), (4, v4)] H⟩⟩⟩⟩⟩⟩)
@[simp] def r7 (s0 : SpecP) (fr : AFr) (H : AHeap) : ARes :=
 areg (q' (fa' 0 (fr 4)) H ⟨fun v34 H1 =>
 q' (ld' v34 H1) H1 ⟨fun v35 H2 =>
 o' (callP false s0 [[none]] [v35] H2) ⟨fun v36 H3 =>
 q' (fa' 0 (fr 1)) H3 ⟨fun v37 H4 =>
 q' (ld' v37 H4) H4 ⟨fun v38 H5 =>
 q' (some (fr 3)) H5 ⟨fun v39 H6 =>
 q' (bn' .add v38 v39) H6 ⟨fun v40 H7 =>
 q' (some v36) H7 ⟨fun v5 H8 =>
 q' (some v40) H8 ⟨fun v6 H9 =>
 withChk [aloadR (some none) v37 H2 = aloadR (some none) v37 H3] (e' [(1, fr 1), (3, fr 3), (4, fr 4), (5, v5), (6, v6)] H9)⟩⟩⟩⟩⟩⟩⟩⟩⟩)
@[simp] def r8 (fr : AFr) (H : AHeap) : ARes :=
 areg (q' (fa' 0 (fr 4)) H ⟨fun v41 H =>
 q' (ld' v41 H) H ⟨fun v42 H =>
 q' (bn' .lss v42 (.int .i64 0)) H ⟨fun v43 H =>
 G' v43 false ⟨fa' 0 (fr 4)⟩ H ⟨fun v45 H =>
 G' v43 false ⟨ld' v45 H⟩ H ⟨fun v46 H =>
 G' v43 false ⟨bn' .gtr v46 (.int .i64 8)⟩ H ⟨fun v47 H =>
 q' (apick v43 (.bool true) v47) H ⟨fun v48 H =>
 G' v48 false ⟨some (fr 5)⟩ H ⟨fun v50 H =>
 G' v48 false ⟨bn' .lss v50 (.int .i64 1)⟩ H ⟨fun v51 H =>
 G' v48 false ⟨some v51⟩ H ⟨fun v52 H =>
 G' v52 true ⟨fa' 1 (fr 4)⟩ H ⟨fun v53 H =>
 G' v52 true ⟨ld' v53 H⟩ H ⟨fun v54 H =>
 G' v52 true ⟨bn' .neq v54 (.int .i64 0)⟩ H ⟨fun v55 H =>
 G' v48 false ⟨apick v52 v55 (.bool false)⟩ H ⟨fun v56 H =>
 q' (apick v48 (.bool true) v56) H ⟨fun v57 H =>
 G' v57 false ⟨some (fr 5)⟩ H ⟨fun v59 H =>
 G' v57 false ⟨bn' .lss v59 (.int .i64 2)⟩ H ⟨fun v60 H =>
 G' v57 false ⟨some v60⟩ H ⟨fun v61 H =>
 G' v61 true ⟨fa' 2 (fr 4)⟩ H ⟨fun v62 H =>
 G' v61 true ⟨ld' v62 H⟩ H ⟨fun v63 H =>
 G' v61 true ⟨bn' .neq v63 (.int .i64 0)⟩ H ⟨fun v64 H =>
 G' v57 false ⟨apick v61 v64 (.bool false)⟩ H ⟨fun v65 H =>
 q' (apick v57 (.bool true) v65) H ⟨fun v66 H =>
 G' v66 false ⟨some (fr 5)⟩ H ⟨fun v68 H =>
 G' v66 false ⟨bn' .gtr v68 (.int .i64 0)⟩ H ⟨fun v69 H =>
 G' v66 false ⟨some v69⟩ H ⟨fun v70 H =>
 G' v70 true ⟨fa' 1 (fr 4)⟩ H ⟨fun v71 H =>
 G' v70 true ⟨ld' v71 H⟩ H ⟨fun v72 H =>
 G' v70 true ⟨bn' .lss v72 (.int .i64 0)⟩ H ⟨fun v73 H =>
 G' v70 true ⟨some v73⟩ H ⟨fun v74 H =>
 G' v74 false ⟨fa' 1 (fr 4)⟩ H ⟨fun v75 H =>
 G' v74 false ⟨ld' v75 H⟩ H ⟨fun v76 H =>
 G' v74 false ⟨some (fr 6)⟩ H ⟨fun v77 H =>
 G' v74 false ⟨bn' .geq v76 v77⟩ H ⟨fun v78 H =>
 G' v70 true ⟨apick v74 (.bool true) v78⟩ H ⟨fun v79 H =>
 G' v66 false ⟨apick v70 v79 (.bool false)⟩ H ⟨fun v80 H =>
 q' (apick v66 (.bool true) v80) H ⟨fun v81 H =>
 G' v81 false ⟨some (fr 5)⟩ H ⟨fun v83 H =>
 G' v81 false ⟨bn' .gtr v83 (.int .i64 1)⟩ H ⟨fun v84 H =>
 G' v81 false ⟨some v84⟩ H ⟨fun v85 H =>
 G' v85 true ⟨fa' 2 (fr 4)⟩ H ⟨fun v86 H =>
 G' v85 true ⟨ld' v86 H⟩ H ⟨fun v87 H =>
 G' v85 true ⟨bn' .lss v87 (.int .i64 0)⟩ H ⟨fun v88 H =>
 G' v85 true ⟨some v88⟩ H ⟨fun v89 H =>
 G' v89 false ⟨fa' 2 (fr 4)⟩ H ⟨fun v90 H =>
 G' v89 false ⟨ld' v90 H⟩ H ⟨fun v91 H =>
 G' v89 false ⟨some (fr 6)⟩ H ⟨fun v92 H =>
 G' v89 false ⟨bn' .geq v91 v92⟩ H ⟨fun v93 H =>
 G' v85 true ⟨apick v89 (.bool true) v93⟩ H ⟨fun v94 H =>
 G' v81 false ⟨apick v85 v94 (.bool false)⟩ H ⟨fun v95 H =>
 q' (apick v81 (.bool true) v95) H ⟨fun v96 H =>
 e' [(1, fr 1), (3, fr 3), (4, fr 4), (96, v96)] H⟩⟩⟩⟩⟩⟩⟩⟩⟩⟩⟩⟩⟩⟩⟩⟩⟩⟩⟩⟩⟩⟩⟩⟩⟩⟩⟩⟩⟩⟩⟩⟩⟩⟩⟩⟩⟩⟩⟩⟩⟩⟩⟩⟩⟩⟩⟩⟩⟩⟩⟩)
@[simp] def r9 (fr : AFr) (H : AHeap) : ARes :=
 areg (e' [(2, (.bool false))] H)
@[simp] def r10 (fr : AFr) (H : AHeap) : ARes :=
 areg (q' (fa' 0 (fr 4)) H ⟨fun v97 H =>
 q' (ld' v97 H) H ⟨fun v98 H =>
 q' (bn' .geq v98 (.int .i64 4)) H ⟨fun v99 H =>
 G' v99 true ⟨fa' 0 (fr 4)⟩ H ⟨fun v101 H =>
 G' v99 true ⟨ld' v101 H⟩ H ⟨fun v102 H =>
 G' v99 true ⟨bn' .leq v102 (.int .i64 6)⟩ H ⟨fun v103 H =>
 q' (apick v99 v103 (.bool false)) H ⟨fun v104 H =>
 G' v104 true ⟨fa' 3 (fr 4)⟩ H ⟨fun v106 H =>
 G' v104 true ⟨ld' v106 H⟩ H ⟨fun v107 H =>
 G' v104 true ⟨bn' .gtr v107 (W32 31#32)⟩ H ⟨fun v108 H =>
 q' (apick v104 v108 (.bool false)) H ⟨fun v109 H =>
 G' v109 false ⟨fa' 0 (fr 4)⟩ H ⟨fun v111 H =>
 G' v109 false ⟨ld' v111 H⟩ H ⟨fun v112 H =>
 G' v109 false ⟨bn' .lss v112 (.int .i64 4)⟩ H ⟨fun v113 H =>
 G' v109 false ⟨some v113⟩ H ⟨fun v114 H =>
 G' v114 false ⟨fa' 0 (fr 4)⟩ H ⟨fun v115 H =>
 G' v114 false ⟨ld' v115 H⟩ H ⟨fun v116 H =>
 G' v114 false ⟨bn' .eql v116 (.int .i64 8)⟩ H ⟨fun v117 H =>
 G' v109 false ⟨apick v114 (.bool true) v117⟩ H ⟨fun v118 H =>
 G' v109 false ⟨some v118⟩ H ⟨fun v119 H =>
 G' v119 true ⟨fa' 3 (fr 4)⟩ H ⟨fun v120 H =>
 G' v119 true ⟨ld' v120 H⟩ H ⟨fun v121 H =>
 G' v119 true ⟨bn' .neq v121 (W32 0#32)⟩ H ⟨fun v122 H =>
 G' v109 false ⟨apick v119 v122 (.bool false)⟩ H ⟨fun v123 H =>
 q' (apick v109 (.bool true) v123) H ⟨fun v124 H =>
 e' [(1, fr 1), (3, fr 3), (124, v124)] H⟩⟩⟩⟩⟩⟩⟩⟩⟩⟩⟩⟩⟩⟩⟩⟩⟩⟩⟩⟩⟩⟩⟩⟩⟩)
@[simp] def r11 (fr : AFr) (H : AHeap) : ARes :=
 areg (e' [(2, (.bool false))] H)
@[simp] def r5 (fr : AFr) (H : AHeap) : ARes :=
 areg (q' (bn' .add (fr 3) (.int .i64 1)) H ⟨fun v28 H =>
 e' [(1, fr 1), (3, v28)] H⟩)
@[simp] def r12 (fr : AFr) (H : AHeap) : ARes :=
 areg (e' [(1, fr 1), (7, (.int .i64 0))] H)
@[simp] def r13 (fr : AFr) (H : AHeap) : ARes :=
 areg (q' (fa' 2 (fr 1)) H ⟨fun v126 H =>
 q' (ld' v126 H) H ⟨fun v127 H =>
 q' (alenR .sl v127) H ⟨fun v128 H =>
 q' (bn' .lss (fr 7) v128) H ⟨fun v129 H =>
 e' [(1, fr 1), (7, fr 7), (129, v129)] H⟩⟩⟩⟩)
@[simp] def r15 (fr : AFr) (H : AHeap) : ARes :=
 areg (q' (fa' 2 (fr 1)) H ⟨fun v132 H1 =>
 q' (ld' v132 H1) H1 ⟨fun v133 H2 =>
 q' (some (fr 7)) H2 ⟨fun v134 H3 =>
 q' (aindexAddrR (.sl 1) v133 v134) H3 ⟨fun v135 H4 =>
 q' (ld' v135 H4) H4 ⟨fun v136 H5 =>
 q' (bn' .lss v136 (.int .i64 0)) H5 ⟨fun v137 H6 =>
 q' (some v137) H6 ⟨fun v138 H7 =>
 G' v138 false ⟨fa' 2 (fr 1)⟩ H7 ⟨fun v139 H8 =>
 G' v138 false ⟨ld' v139 H8⟩ H8 ⟨fun v140 H9 =>
 G' v138 false ⟨some (fr 7)⟩ H9 ⟨fun v141 H10 =>
 G' v138 false ⟨aindexAddrR (.sl 1) v140 v141⟩ H10 ⟨fun v142 H11 =>
 G' v138 false ⟨ld' v142 H11⟩ H11 ⟨fun v143 H12 =>
 G' v138 false ⟨fa' 0 (fr 1)⟩ H12 ⟨fun v144 H13 =>
 G' v138 false ⟨ld' v144 H13⟩ H13 ⟨fun v145 H14 =>
 G' v138 false ⟨fa' 1 (fr 1)⟩ H14 ⟨fun v146 H15 =>
 G' v138 false ⟨ld' v146 H15⟩ H15 ⟨fun v147 H16 =>
 G' v138 false ⟨alenR .sl v147⟩ H16 ⟨fun v148 H17 =>
 G' v138 false ⟨bn' .add v145 v148⟩ H17 ⟨fun v149 H18 =>
 G' v138 false ⟨bn' .geq v143 v149⟩ H18 ⟨fun v150 H19 =>
 q' (apick v138 (.bool true) v150) H19 ⟨fun v151 H20 =>
 e' [(1, fr 1), (7, fr 7), (151, v151)] H20⟩⟩⟩⟩⟩⟩⟩⟩⟩⟩⟩⟩⟩⟩⟩⟩⟩⟩⟩⟩)
@[simp] def r16 (fr : AFr) (H : AHeap) : ARes :=
 areg (e' [(2, (.bool false))] H)
@[simp] def r14 (fr : AFr) (H : AHeap) : ARes :=
 areg (q' (bn' .add (fr 7) (.int .i64 1)) H ⟨fun v131 H =>
 e' [(1, fr 1), (7, v131)] H⟩)
@[simp] def r17 (fr : AFr) (H : AHeap) : ARes :=
 areg (e' [(2, (.bool true))] H)
def l0 (s0 : SpecP) (fr : AFr) (H : AHeap) : ARes :=
  s' (s' (r4 fr H) ⟨fun fr H =>
 c' (fr 26)
 ⟨some (.normal, fr, H)⟩
 ⟨some (.exit 0, fr, H)⟩⟩) ⟨fun fr H =>
 s' (aexit 1 (s' (r6 fr H) ⟨fun fr H =>
 s' (r7 s0 fr H) ⟨fun fr H =>
 s' (s' (r8 fr H) ⟨fun fr H =>
 c' (fr 96)
 ⟨s' (r9 fr H) ⟨fun fr H =>
 some (.ret, fr, H)⟩⟩
 ⟨some (.normal, fr, H)⟩⟩) ⟨fun fr H =>
 s' (r10 fr H) ⟨fun fr H =>
 c' (fr 124)
 ⟨s' (r11 fr H) ⟨fun fr H =>
 some (.ret, fr, H)⟩⟩
 ⟨some (.normal, fr, H)⟩⟩⟩⟩⟩)) ⟨fun fr H =>
 r5 fr H⟩⟩
def l1 (s0 : SpecP) (fr : AFr) (H : AHeap) : ARes :=
  s' (s' (r13 fr H) ⟨fun fr H =>
 c' (fr 129)
 ⟨some (.normal, fr, H)⟩
 ⟨some (.exit 2, fr, H)⟩⟩) ⟨fun fr H =>
 s' (aexit 3 (s' (r15 fr H) ⟨fun fr H =>
 c' (fr 151)
 ⟨s' (r16 fr H) ⟨fun fr H =>
 some (.ret, fr, H)⟩⟩
 ⟨some (.normal, fr, H)⟩⟩)) ⟨fun fr H =>
 r14 fr H⟩⟩
@[simp] def body (s0 : SpecP) (fr : AFr) (H : AHeap) : ARes :=
  s' (r0 fr H) ⟨fun fr H =>
 s' (s' (r1 fr H) ⟨fun fr H =>
 c' (fr 21)
 ⟨s' (r2 fr H) ⟨fun fr H =>
 some (.ret, fr, H)⟩⟩
 ⟨some (.normal, fr, H)⟩⟩) ⟨fun fr H =>
 s' (s' (r3 fr H) ⟨fun fr H =>
  aexit 0 (aloop (l0 s0) fr H)⟩) ⟨fun fr H =>
 s' (s' (r12 fr H) ⟨fun fr H =>
  aexit 2 (aloop (l1 s0) fr H)⟩) ⟨fun fr H =>
 s' (r17 fr H) ⟨fun fr H =>
 some (.ret, fr, H)⟩⟩⟩⟩⟩
@[simp] def res (fr : AFr) (H : AHeap) : Option (List AV) := res2 (some (fr 2)) (some [])
end ref19_Can
def ref19_Can (a0 : AV) : Option AV := closeUpR (some [[none]]) (afinR ref19_Can.res (ref19_Can.body ref19_Takes.spec (args0 [a0]) AHeap.empty))
def ref19_Can.spec : List AV → Option AV
  | [a0] => ref19_Can a0
  | _ => none
end
end Go.Abs
