/-
  The functions, as they are over abstract values. Printed by gen.py.
-/
import Derived.Test.YtncablokgkejjaaCrF
import Derived.Test.YtncablokgkejjaaLoF
set_option linter.unusedVariables false
namespace Go.Abs
noncomputable section
namespace ref07_Step
@[simp] def r0 (fr : AFr) (H : AHeap) : ARes :=
 areg (@opi _ (abox T.ty_api_State (fr 0) H) ⟨fun v2 H =>
 @opi _ (aallocR T.ty_api_State (some (.agg [(W32 0#32), (W32 0#32), (W32 0#32), (W32 0#32), (W32 0#32), (W32 0#32), (W32 0#32), (W32 0#32), (W32 0#32), (.bool false), (.bool false), (.bool false), (.bool false)])) H) ⟨fun v4 H =>
 @opi _ (aallocR T.ty_api_Leak (some (.agg [(W32 0#32), (W16 0#16), (W32 0#32), (W32 0#32), (W32 0#32), (W32 0#32), (W32 0#32), (W32 0#32), (.bool false), (.bool false)])) H) ⟨fun v5 H =>
 some (AFr.al [(1, fr 1), (2, v2), (4, v4), (5, v5)], H)⟩⟩⟩)
@[simp] def r1 (fr : AFr) (H : AHeap) : ARes :=
 areg (@opi _ (lift (anil (fr 1)) H) ⟨fun v22 H =>
 @opi _ (lift (afieldAddrR (some 4) v22) H) ⟨fun v23 H =>
 @opi _ (lift (aloadR (some none) v23 H) H) ⟨fun v24 H =>
 some (AFr.al [(1, fr 1), (2, fr 2), (4, fr 4), (5, fr 5), (8, v24)], H)⟩⟩⟩)
@[simp] def r2 (s0 : SpecM) (fr : AFr) (H : AHeap) : ARes :=
 areg (@opi _ (lift (aloadR (some (some 13)) (fr 2) H) H) ⟨fun v26 H =>
 @opi _ (callM [true, false] s0 [[none, none, none, none, none, none, none, none, none, none, none, none, none], [none]] [v26, (fr 1)] H) ⟨fun v28 H =>
 @opi _ (lift (aextract v28 0) H) ⟨fun v29 H =>
 @opi _ (lift (aextract v28 1) H) ⟨fun v30 H =>
 @opi _ (lift (aextract v28 2) H) ⟨fun v31 H =>
 @opi _ (aallocR T.ty_api_State (some (.agg [(W32 0#32), (W32 0#32), (W32 0#32), (W32 0#32), (W32 0#32), (W32 0#32), (W32 0#32), (W32 0#32), (W32 0#32), (.bool false), (.bool false), (.bool false), (.bool false)])) H) ⟨fun v9 H =>
 @opi _ (liftS (astoreR (some 13) v9 v29 H)) ⟨fun _ H =>
 some (AFr.al [(1, fr 1), (2, fr 2), (4, fr 4), (5, fr 5), (8, fr 8), (9, v9), (10, v30), (11, v31)], H)⟩⟩⟩⟩⟩⟩⟩)
@[simp] def r3 (fr : AFr) (H : AHeap) : ARes :=
 areg (@opi _ (lift (abinR .x .neq (fr 11) (.int .i64 0)) H) ⟨fun v33 H =>
 some (AFr.al [(1, fr 1), (2, fr 2), (4, fr 4), (5, fr 5), (8, fr 8), (9, fr 9), (10, fr 10), (11, fr 11), (33, v33)], H)⟩)
@[simp] def r4 (fr : AFr) (H : AHeap) : ARes :=
 areg (@opi _ (lift (aloadR (some (some 13)) (fr 9) H) H) ⟨fun v34 H =>
 @opi _ (lift (abuildR (.str [(W32 0#32), (W16 0#16), (W32 0#32), (W32 0#32), (W32 0#32), (W32 0#32), (W32 0#32), (W32 0#32), (.bool false), (.bool false)] [(0, 1), (1, 1), (2, 1), (3, 1), (4, 1), (5, 1), (6, 1), (7, 1), (8, 1), (9, 1)]) []) H) ⟨fun v35 H =>
 @opi _ (liftS (astoreR (some 13) (fr 4) v34 H)) ⟨fun _ H =>
 @opi _ (liftS (astoreR (some 10) (fr 5) v35 H)) ⟨fun _ H =>
 some (AFr.al [(4, fr 4), (5, fr 5), (6, (fr 10)), (7, (fr 11))], H)⟩⟩⟩⟩)
@[simp] def r5 (s1 : SpecM) (fr : AFr) (H : AHeap) : ARes :=
 areg (@opi _ (lift (afieldAddrR (some 8) (fr 2)) H) ⟨fun v40 H =>
 @opi _ (lift (aloadR (some none) v40 H) H) ⟨fun v41 H =>
 @opi _ (callM [false, false] s1 [[none], [none]] [(fr 1), v41] H) ⟨fun v42 H =>
 @opi _ (lift (aextract v42 0) H) ⟨fun v43 H =>
 @opi _ (lift (aextract v42 1) H) ⟨fun v44 H =>
 some (AFr.al [(2, fr 2), (4, fr 4), (5, fr 5), (8, fr 8), (9, fr 9), (10, fr 10), (12, v43)], H)⟩⟩⟩⟩⟩)
@[simp] def r6 (s2 : SpecP) (fr : AFr) (H : AHeap) : ARes :=
 areg (@opi _ (callP false s2 [[none]] [(fr 12)] H) ⟨fun v47 H =>
 @opi _ (lift (aextract v47 0) H) ⟨fun v48 H =>
 @opi _ (lift (aextract v47 1) H) ⟨fun v49 H =>
 @opi _ (aallocR T.ty_api_Ins (some (.agg [(.int .i64 0), (.int .i64 0), (.int .i64 0), (.int .i64 0), (.int .i64 0)])) H) ⟨fun v14 H =>
 @opi _ (liftS (astoreR (some 5) v14 v48 H)) ⟨fun _ H =>
 some (AFr.al [(2, fr 2), (4, fr 4), (5, fr 5), (8, fr 8), (9, fr 9), (10, fr 10), (12, fr 12), (14, v14)], H)⟩⟩⟩⟩⟩)
@[simp] def r7 (fr : AFr) (H : AHeap) : ARes :=
 areg (@opi _ (lift (afieldAddrR (some 8) (fr 2)) H) ⟨fun v50 H =>
 @opi _ (lift (aloadR (some none) v50 H) H) ⟨fun v51 H =>
 @opi _ (lift (abuildR (.str [(W32 0#32), (W16 0#16), (W32 0#32), (W32 0#32), (W32 0#32), (W32 0#32), (W32 0#32), (W32 0#32), (.bool false), (.bool false)] [(0, 1), (1, 1), (2, 1), (3, 1), (4, 1), (5, 1), (6, 1), (7, 1), (8, 1), (9, 1)]) [(0, v51), (1, (fr 12)), (6, (fr 8))]) H) ⟨fun v54 H =>
 @opi _ (aallocR T.ty_api_Leak (some (.agg [(W32 0#32), (W16 0#16), (W32 0#32), (W32 0#32), (W32 0#32), (W32 0#32), (W32 0#32), (W32 0#32), (.bool false), (.bool false)])) H) ⟨fun v16 H =>
 @opi _ (liftS (astoreR (some 10) v16 v54 H)) ⟨fun _ H =>
 some (AFr.al [(2, fr 2), (4, fr 4), (5, fr 5), (9, fr 9), (10, fr 10), (14, fr 14), (16, v16)], H)⟩⟩⟩⟩⟩)
@[simp] def r8 (fr : AFr) (H : AHeap) : ARes :=
 areg (@opi _ (lift (afieldAddrR (some 0) (fr 14)) H) ⟨fun v55 H1 =>
 @opi _ (lift (aloadR (some none) v55 H1) H1) ⟨fun v56 H2 =>
 @opi _ (lift (afieldAddrR (some 4) (fr 14)) H2) ⟨fun v57 H3 =>
 @opi _ (lift (aloadR (some none) v57 H3) H3) ⟨fun v58 H4 =>
 @opi _ (lift (aconvR (some .u32) v58) H4) ⟨fun v59 H5 =>
 @opi _ (lift (some v56) H5) ⟨fun v17 H6 =>
 @opi _ (lift (some v59) H6) ⟨fun v18 H7 =>
 some (AFr.al [(2, fr 2), (4, fr 4), (5, fr 5), (9, fr 9), (10, fr 10), (14, fr 14), (16, fr 16), (17, v17), (18, v18)], H7)⟩⟩⟩⟩⟩⟩⟩)
@[simp] def r9 (fr : AFr) (H : AHeap) : ARes :=
 areg (@opi _ (lift (abinR .x .leq (fr 17) (.int .i64 3)) H) ⟨fun v61 H =>
 @opi _ (@gdi (gw v61 false) ⟨lift (some (fr 17)) H⟩ H) ⟨fun v63 H =>
 @opi _ (@gdi (gw v61 false) ⟨lift (abinR .x .geq v63 (.int .i64 4)) H⟩ H) ⟨fun v64 H =>
 @opi _ (@gdi (gw v61 false) ⟨lift (some v64) H⟩ H) ⟨fun v65 H =>
 @opi _ (@gdi (gw v65 true) ⟨lift (some (fr 17)) H⟩ H) ⟨fun v66 H =>
 @opi _ (@gdi (gw v65 true) ⟨lift (abinR .x .leq v66 (.int .i64 6)) H⟩ H) ⟨fun v67 H =>
 @opi _ (@gdi (gw v61 false) ⟨lift (apick v65 v67 (.bool false)) H⟩ H) ⟨fun v68 H =>
 @opi _ (lift (apick v61 (.bool true) v68) H) ⟨fun v69 H =>
 @opi _ (@gdi (gw v69 false) ⟨lift (some (fr 17)) H⟩ H) ⟨fun v71 H =>
 @opi _ (@gdi (gw v69 false) ⟨lift (abinR .x .eql v71 (.int .i64 9)) H⟩ H) ⟨fun v72 H =>
 @opi _ (lift (apick v69 (.bool true) v72) H) ⟨fun v73 H =>
 @opi _ (@gdi (gw v73 false) ⟨lift (some (fr 17)) H⟩ H) ⟨fun v75 H =>
 @opi _ (@gdi (gw v73 false) ⟨lift (abinR .x .eql v75 (.int .i64 10)) H⟩ H) ⟨fun v76 H =>
 @opi _ (lift (apick v73 (.bool true) v76) H) ⟨fun v77 H =>
 some (AFr.al [(2, fr 2), (4, fr 4), (5, fr 5), (9, fr 9), (10, fr 10), (14, fr 14), (16, fr 16), (17, fr 17), (18, fr 18), (77, v77)], H)⟩⟩⟩⟩⟩⟩⟩⟩⟩⟩⟩⟩⟩⟩)
@[simp] def r10 (fr : AFr) (H : AHeap) : ARes :=
 areg (@opi _ (lift (afieldAddrR (some 3) (fr 16)) H) ⟨fun v79 H =>
 @opi _ (liftS (astoreR (some 1) v79 (fr 18) H)) ⟨fun _ H =>
 some (AFr.al [(2, fr 2), (4, fr 4), (5, fr 5), (9, fr 9), (10, fr 10), (14, fr 14), (16, fr 16), (17, fr 17), (18, fr 18)], H)⟩⟩)
@[simp] def r11 (fr : AFr) (H : AHeap) : ARes :=
 areg (@opi _ (lift (abinR .x .geq (fr 17) (.int .i64 1)) H) ⟨fun v81 H =>
 @opi _ (@gdi (gw v81 true) ⟨lift (some (fr 17)) H⟩ H) ⟨fun v83 H =>
 @opi _ (@gdi (gw v81 true) ⟨lift (abinR .x .leq v83 (.int .i64 3)) H⟩ H) ⟨fun v84 H =>
 @opi _ (lift (apick v81 v84 (.bool false)) H) ⟨fun v85 H =>
 @opi _ (@gdi (gw v85 false) ⟨lift (some (fr 17)) H⟩ H) ⟨fun v87 H =>
 @opi _ (@gdi (gw v85 false) ⟨lift (abinR .x .eql v87 (.int .i64 11)) H⟩ H) ⟨fun v88 H =>
 @opi _ (lift (apick v85 (.bool true) v88) H) ⟨fun v89 H =>
 @opi _ (@gdi (gw v89 false) ⟨lift (some (fr 17)) H⟩ H) ⟨fun v91 H =>
 @opi _ (@gdi (gw v89 false) ⟨lift (abinR .x .eql v91 (.int .i64 13)) H⟩ H) ⟨fun v92 H =>
 @opi _ (lift (apick v89 (.bool true) v92) H) ⟨fun v93 H =>
 @opi _ (@gdi (gw v93 false) ⟨lift (some (fr 17)) H⟩ H) ⟨fun v95 H =>
 @opi _ (@gdi (gw v93 false) ⟨lift (abinR .x .eql v95 (.int .i64 15)) H⟩ H) ⟨fun v96 H =>
 @opi _ (lift (apick v93 (.bool true) v96) H) ⟨fun v97 H =>
 some (AFr.al [(2, fr 2), (4, fr 4), (5, fr 5), (9, fr 9), (10, fr 10), (14, fr 14), (16, fr 16), (17, fr 17), (18, fr 18), (97, v97)], H)⟩⟩⟩⟩⟩⟩⟩⟩⟩⟩⟩⟩⟩)
@[simp] def r12 (fr : AFr) (H : AHeap) : ARes :=
 areg (@opi _ (lift (afieldAddrR (some 1) (fr 14)) H) ⟨fun v98 H =>
 @opi _ (lift (aloadR (some none) v98 H) H) ⟨fun v99 H =>
 @opi _ (lift (afieldAddrR (some 0) (fr 2)) H) ⟨fun v100 H =>
 @opi _ (lift (aindexAddrR (.arr 8 1) v100 v99) H) ⟨fun v101 H =>
 @opi _ (lift (aloadR (some none) v101 H) H) ⟨fun v102 H =>
 @opi _ (lift (afieldAddrR (some 2) (fr 16)) H) ⟨fun v103 H =>
 @opi _ (liftS (astoreR (some 1) v103 v102 H)) ⟨fun _ H =>
 some (AFr.al [(2, fr 2), (4, fr 4), (5, fr 5), (9, fr 9), (10, fr 10), (14, fr 14), (16, fr 16), (17, fr 17), (18, fr 18)], H)⟩⟩⟩⟩⟩⟩⟩)
@[simp] def r13 (fr : AFr) (H : AHeap) : ARes :=
 areg (@opi _ (lift (abinR .x .geq (fr 17) (.int .i64 4)) H) ⟨fun v105 H =>
 @opi _ (@gdi (gw v105 true) ⟨lift (some (fr 17)) H⟩ H) ⟨fun v107 H =>
 @opi _ (@gdi (gw v105 true) ⟨lift (abinR .x .leq v107 (.int .i64 6)) H⟩ H) ⟨fun v108 H =>
 @opi _ (lift (apick v105 v108 (.bool false)) H) ⟨fun v109 H =>
 some (AFr.al [(2, fr 2), (4, fr 4), (5, fr 5), (9, fr 9), (10, fr 10), (14, fr 14), (16, fr 16), (17, fr 17), (18, fr 18), (109, v109)], H)⟩⟩⟩⟩)
@[simp] def r14 (fr : AFr) (H : AHeap) : ARes :=
 areg (@opi _ (lift (afieldAddrR (some 3) (fr 14)) H) ⟨fun v110 H =>
 @opi _ (lift (aloadR (some none) v110 H) H) ⟨fun v111 H =>
 @opi _ (lift (afieldAddrR (some 0) (fr 2)) H) ⟨fun v112 H =>
 @opi _ (lift (aindexAddrR (.arr 8 1) v112 v111) H) ⟨fun v113 H =>
 @opi _ (lift (aloadR (some none) v113 H) H) ⟨fun v114 H =>
 @opi _ (lift (afieldAddrR (some 2) (fr 16)) H) ⟨fun v115 H =>
 @opi _ (liftS (astoreR (some 1) v115 v114 H)) ⟨fun _ H =>
 some (AFr.al [(2, fr 2), (4, fr 4), (5, fr 5), (9, fr 9), (10, fr 10), (14, fr 14), (16, fr 16), (17, fr 17), (18, fr 18)], H)⟩⟩⟩⟩⟩⟩⟩)
@[simp] def r15 (fr : AFr) (H : AHeap) : ARes :=
 areg (@opi _ (lift (abinR .x .geq (fr 17) (.int .i64 7)) H) ⟨fun v117 H =>
 @opi _ (@gdi (gw v117 true) ⟨lift (some (fr 17)) H⟩ H) ⟨fun v119 H =>
 @opi _ (@gdi (gw v117 true) ⟨lift (abinR .x .leq v119 (.int .i64 10)) H⟩ H) ⟨fun v120 H =>
 @opi _ (lift (apick v117 v120 (.bool false)) H) ⟨fun v121 H =>
 @opi _ (@gdi (gw v121 false) ⟨lift (some (fr 17)) H⟩ H) ⟨fun v123 H =>
 @opi _ (@gdi (gw v121 false) ⟨lift (abinR .x .eql v123 (.int .i64 12)) H⟩ H) ⟨fun v124 H =>
 @opi _ (lift (apick v121 (.bool true) v124) H) ⟨fun v125 H =>
 @opi _ (@gdi (gw v125 false) ⟨lift (some (fr 17)) H⟩ H) ⟨fun v127 H =>
 @opi _ (@gdi (gw v125 false) ⟨lift (abinR .x .eql v127 (.int .i64 14)) H⟩ H) ⟨fun v128 H =>
 @opi _ (lift (apick v125 (.bool true) v128) H) ⟨fun v129 H =>
 some (AFr.al [(2, fr 2), (4, fr 4), (5, fr 5), (9, fr 9), (10, fr 10), (14, fr 14), (16, fr 16), (17, fr 17), (18, fr 18), (129, v129)], H)⟩⟩⟩⟩⟩⟩⟩⟩⟩⟩)
@[simp] def r16 (fr : AFr) (H : AHeap) : ARes :=
 areg (@opi _ (lift (afieldAddrR (some 2) (fr 14)) H) ⟨fun v130 H =>
 @opi _ (lift (aloadR (some none) v130 H) H) ⟨fun v131 H =>
 @opi _ (lift (afieldAddrR (some 0) (fr 2)) H) ⟨fun v132 H =>
 @opi _ (lift (aindexAddrR (.arr 8 1) v132 v131) H) ⟨fun v133 H =>
 @opi _ (lift (aloadR (some none) v133 H) H) ⟨fun v134 H =>
 @opi _ (lift (afieldAddrR (some 2) (fr 16)) H) ⟨fun v135 H =>
 @opi _ (liftS (astoreR (some 1) v135 v134 H)) ⟨fun _ H =>
 some (AFr.al [(2, fr 2), (4, fr 4), (5, fr 5), (9, fr 9), (10, fr 10), (14, fr 14), (16, fr 16), (17, fr 17), (18, fr 18)], H)⟩⟩⟩⟩⟩⟩⟩)
@[simp] def r17 (fr : AFr) (H : AHeap) : ARes :=
 areg (@opi _ (lift (abinR .x .eql (fr 17) (.int .i64 7)) H) ⟨fun v137 H =>
 @opi _ (@gdi (gw v137 false) ⟨lift (some (fr 17)) H⟩ H) ⟨fun v139 H =>
 @opi _ (@gdi (gw v137 false) ⟨lift (abinR .x .eql v139 (.int .i64 8)) H⟩ H) ⟨fun v140 H =>
 @opi _ (lift (apick v137 (.bool true) v140) H) ⟨fun v141 H =>
 @opi _ (@gdi (gw v141 false) ⟨lift (some (fr 17)) H⟩ H) ⟨fun v143 H =>
 @opi _ (@gdi (gw v141 false) ⟨lift (abinR .x .eql v143 (.int .i64 11)) H⟩ H) ⟨fun v144 H =>
 @opi _ (lift (apick v141 (.bool true) v144) H) ⟨fun v145 H =>
 @opi _ (@gdi (gw v145 false) ⟨lift (some (fr 17)) H⟩ H) ⟨fun v147 H =>
 @opi _ (@gdi (gw v145 false) ⟨lift (abinR .x .eql v147 (.int .i64 14)) H⟩ H) ⟨fun v148 H =>
 @opi _ (lift (apick v145 (.bool true) v148) H) ⟨fun v149 H =>
 some (AFr.al [(2, fr 2), (4, fr 4), (5, fr 5), (9, fr 9), (10, fr 10), (14, fr 14), (16, fr 16), (17, fr 17), (18, fr 18), (149, v149)], H)⟩⟩⟩⟩⟩⟩⟩⟩⟩⟩)
@[simp] def r18 (fr : AFr) (H : AHeap) : ARes :=
 areg (@opi _ (lift (afieldAddrR (some 3) (fr 14)) H) ⟨fun v150 H =>
 @opi _ (lift (aloadR (some none) v150 H) H) ⟨fun v151 H =>
 @opi _ (lift (afieldAddrR (some 0) (fr 2)) H) ⟨fun v152 H =>
 @opi _ (lift (aindexAddrR (.arr 8 1) v152 v151) H) ⟨fun v153 H =>
 @opi _ (lift (aloadR (some none) v153 H) H) ⟨fun v154 H =>
 @opi _ (lift (afieldAddrR (some 3) (fr 16)) H) ⟨fun v155 H =>
 @opi _ (liftS (astoreR (some 1) v155 v154 H)) ⟨fun _ H =>
 some (AFr.al [(2, fr 2), (4, fr 4), (5, fr 5), (9, fr 9), (10, fr 10), (14, fr 14), (16, fr 16), (17, fr 17), (18, fr 18)], H)⟩⟩⟩⟩⟩⟩⟩)
@[simp] def r19 (fr : AFr) (H : AHeap) : ARes :=
 areg (@opi _ (lift (abinR .x .eql (fr 17) (.int .i64 12)) H) ⟨fun v157 H =>
 some (AFr.al [(2, fr 2), (4, fr 4), (5, fr 5), (9, fr 9), (10, fr 10), (14, fr 14), (16, fr 16), (17, fr 17), (18, fr 18), (157, v157)], H)⟩)
@[simp] def r20 (fr : AFr) (H : AHeap) : ARes :=
 areg (@opi _ (lift (abinR .x .mul (W32 4#32) (fr 18)) H) ⟨fun v159 H =>
 @opi _ (lift (afieldAddrR (some 3) (fr 16)) H) ⟨fun v160 H =>
 @opi _ (liftS (astoreR (some 1) v160 v159 H)) ⟨fun _ H =>
 some (AFr.al [(2, fr 2), (4, fr 4), (5, fr 5), (9, fr 9), (10, fr 10), (14, fr 14), (16, fr 16), (17, fr 17), (18, fr 18)], H)⟩⟩⟩)
@[simp] def r21 (fr : AFr) (H : AHeap) : ARes :=
 areg (@opi _ (lift (abinR .x .geq (fr 17) (.int .i64 12)) H) ⟨fun v162 H =>
 @opi _ (@gdi (gw v162 true) ⟨lift (some (fr 17)) H⟩ H) ⟨fun v164 H =>
 @opi _ (@gdi (gw v162 true) ⟨lift (abinR .x .leq v164 (.int .i64 16)) H⟩ H) ⟨fun v165 H =>
 @opi _ (lift (apick v162 v165 (.bool false)) H) ⟨fun v166 H =>
 @opi _ (lift (afieldAddrR (some 8) (fr 16)) H) ⟨fun v167 H =>
 @opi _ (liftS (astoreR (some 1) v167 v166 H)) ⟨fun _ H =>
 some (AFr.al [(2, fr 2), (4, fr 4), (5, fr 5), (9, fr 9), (10, fr 10), (14, fr 14), (16, fr 16), (17, fr 17), (18, fr 18)], H)⟩⟩⟩⟩⟩⟩)
@[simp] def r22 (fr : AFr) (H : AHeap) : ARes :=
 areg (@opi _ (lift (abinR .x .eql (fr 17) (.int .i64 12)) H) ⟨fun v169 H =>
 @opi _ (@gdi (gw v169 false) ⟨lift (some (fr 17)) H⟩ H) ⟨fun v171 H =>
 @opi _ (@gdi (gw v169 false) ⟨lift (abinR .x .eql v171 (.int .i64 13)) H⟩ H) ⟨fun v172 H =>
 @opi _ (lift (apick v169 (.bool true) v172) H) ⟨fun v173 H =>
 some (AFr.al [(2, fr 2), (4, fr 4), (5, fr 5), (9, fr 9), (10, fr 10), (14, fr 14), (16, fr 16), (17, fr 17), (18, fr 18), (173, v173)], H)⟩⟩⟩⟩)
@[simp] def r23 (fr : AFr) (H : AHeap) : ARes :=
 areg (@opi _ (lift (afieldAddrR (some 2) (fr 14)) H) ⟨fun v174 H =>
 @opi _ (lift (aloadR (some none) v174 H) H) ⟨fun v175 H =>
 @opi _ (lift (afieldAddrR (some 0) (fr 2)) H) ⟨fun v176 H =>
 @opi _ (lift (aindexAddrR (.arr 8 1) v176 v175) H) ⟨fun v177 H =>
 @opi _ (lift (aloadR (some none) v177 H) H) ⟨fun v178 H =>
 @opi _ (lift (abinR .x .mul (W32 4#32) (fr 18)) H) ⟨fun v180 H =>
 @opi _ (lift (abinR .x .add v178 v180) H) ⟨fun v181 H =>
 @opi _ (lift (afieldAddrR (some 7) (fr 16)) H) ⟨fun v182 H =>
 @opi _ (liftS (astoreR (some 1) v182 v181 H)) ⟨fun _ H =>
 some (AFr.al [(2, fr 2), (4, fr 4), (5, fr 5), (9, fr 9), (10, fr 10), (14, fr 14), (16, fr 16), (17, fr 17), (18, fr 18)], H)⟩⟩⟩⟩⟩⟩⟩⟩⟩)
@[simp] def r24 (fr : AFr) (H : AHeap) : ARes :=
 areg (@opi _ (lift (abinR .x .eql (fr 17) (.int .i64 14)) H) ⟨fun v184 H =>
 @opi _ (@gdi (gw v184 false) ⟨lift (some (fr 17)) H⟩ H) ⟨fun v186 H =>
 @opi _ (@gdi (gw v184 false) ⟨lift (abinR .x .eql v186 (.int .i64 15)) H⟩ H) ⟨fun v187 H =>
 @opi _ (lift (apick v184 (.bool true) v187) H) ⟨fun v188 H =>
 some (AFr.al [(2, fr 2), (4, fr 4), (5, fr 5), (9, fr 9), (10, fr 10), (14, fr 14), (16, fr 16), (17, fr 17), (18, fr 18), (188, v188)], H)⟩⟩⟩⟩)
@[simp] def r25 (fr : AFr) (H : AHeap) : ARes :=
 areg (@opi _ (lift (afieldAddrR (some 2) (fr 14)) H) ⟨fun v189 H1 =>
 @opi _ (lift (aloadR (some none) v189 H1) H1) ⟨fun v190 H2 =>
 @opi _ (lift (afieldAddrR (some 0) (fr 2)) H2) ⟨fun v191 H3 =>
 @opi _ (lift (aindexAddrR (.arr 8 1) v191 v190) H3) ⟨fun v192 H4 =>
 @opi _ (lift (aloadR (some none) v192 H4) H4) ⟨fun v193 H5 =>
 @opi _ (lift (afieldAddrR (some 3) (fr 14)) H5) ⟨fun v194 H6 =>
 @opi _ (lift (aloadR (some none) v194 H6) H6) ⟨fun v195 H7 =>
 @opi _ (lift (afieldAddrR (some 0) (fr 2)) H7) ⟨fun v196 H8 =>
 @opi _ (lift (aindexAddrR (.arr 8 1) v196 v195) H8) ⟨fun v197 H9 =>
 @opi _ (lift (aloadR (some none) v197 H9) H9) ⟨fun v198 H10 =>
 @opi _ (lift (abinR .x .add v193 v198) H10) ⟨fun v199 H11 =>
 @opi _ (lift (afieldAddrR (some 7) (fr 16)) H11) ⟨fun v200 H12 =>
 @opi _ (liftS (astoreR (some 1) v200 v199 H12)) ⟨fun _ H13 =>
 some (AFr.al [(2, fr 2), (4, fr 4), (5, fr 5), (9, fr 9), (10, fr 10), (14, fr 14), (16, fr 16), (17, fr 17), (18, fr 18)], H13)⟩⟩⟩⟩⟩⟩⟩⟩⟩⟩⟩⟩⟩)
@[simp] def r26 (fr : AFr) (H : AHeap) : ARes :=
 areg (@opi _ (lift (abinR .x .eql (fr 17) (.int .i64 16)) H) ⟨fun v202 H =>
 some (AFr.al [(2, fr 2), (4, fr 4), (5, fr 5), (9, fr 9), (10, fr 10), (14, fr 14), (16, fr 16), (17, fr 17), (18, fr 18), (202, v202)], H)⟩)
@[simp] def r27 (fr : AFr) (H : AHeap) : ARes :=
 areg (@opi _ (lift (afieldAddrR (some 8) (fr 2)) H) ⟨fun v203 H =>
 @opi _ (lift (aloadR (some none) v203 H) H) ⟨fun v204 H =>
 @opi _ (lift (abinR .x .add v204 (W32 4#32)) H) ⟨fun v205 H =>
 @opi _ (lift (abinR .x .quo v205 (W32 4#32)) H) ⟨fun v206 H =>
 @opi _ (lift (abinR .x .mul v206 (W32 4#32)) H) ⟨fun v207 H =>
 @opi _ (lift (abinR .x .mul (W32 4#32) (fr 18)) H) ⟨fun v209 H =>
 @opi _ (lift (abinR .x .add v207 v209) H) ⟨fun v210 H =>
 @opi _ (lift (afieldAddrR (some 7) (fr 16)) H) ⟨fun v211 H =>
 @opi _ (liftS (astoreR (some 1) v211 v210 H)) ⟨fun _ H =>
 some (AFr.al [(2, fr 2), (4, fr 4), (5, fr 5), (9, fr 9), (10, fr 10), (14, fr 14), (16, fr 16), (17, fr 17)], H)⟩⟩⟩⟩⟩⟩⟩⟩⟩)
@[simp] def r28 (fr : AFr) (H : AHeap) : ARes :=
 areg (@opi _ (lift (abinR .x .eql (fr 17) (.int .i64 12)) H) ⟨fun v213 H =>
 @opi _ (@gdi (gw v213 false) ⟨lift (some (fr 17)) H⟩ H) ⟨fun v215 H =>
 @opi _ (@gdi (gw v213 false) ⟨lift (abinR .x .eql v215 (.int .i64 14)) H⟩ H) ⟨fun v216 H =>
 @opi _ (lift (apick v213 (.bool true) v216) H) ⟨fun v217 H =>
 @opi _ (@gdi (gw v217 false) ⟨lift (some (fr 17)) H⟩ H) ⟨fun v219 H =>
 @opi _ (@gdi (gw v217 false) ⟨lift (abinR .x .eql v219 (.int .i64 16)) H⟩ H) ⟨fun v220 H =>
 @opi _ (lift (apick v217 (.bool true) v220) H) ⟨fun v221 H =>
 @opi _ (@gdi (gw v221 true) ⟨lift (afieldAddrR (some 7) (fr 16)) H⟩ H) ⟨fun v223 H =>
 @opi _ (@gdi (gw v221 true) ⟨lift (aloadR (some none) v223 H) H⟩ H) ⟨fun v224 H =>
 @opi _ (@gdi (gw v221 true) ⟨lift (abinR .x .eql v224 (W32 1073741824#32)) H⟩ H) ⟨fun v225 H =>
 @opi _ (lift (apick v221 v225 (.bool false)) H) ⟨fun v226 H =>
 @opi _ (lift (afieldAddrR (some 9) (fr 16)) H) ⟨fun v227 H =>
 @opi _ (liftS (astoreR (some 1) v227 v226 H)) ⟨fun _ H =>
 some (AFr.al [(2, fr 2), (4, fr 4), (5, fr 5), (9, fr 9), (10, fr 10), (14, fr 14), (16, fr 16), (17, fr 17)], H)⟩⟩⟩⟩⟩⟩⟩⟩⟩⟩⟩⟩⟩)
@[simp] def r29 (s3 : SpecP) (fr : AFr) (H : AHeap) : ARes :=
 areg (@opi _ (lift (aloadR (some (some 5)) (fr 14) H) H) ⟨fun v229 H =>
 @opi _ (callP false s3 [[none, none, none, none, none]] [v229] H) ⟨fun v230 H =>
 @opi _ (lift (aextract v230 0) H) ⟨fun v231 H =>
 @opi _ (lift (aextract v230 1) H) ⟨fun v232 H =>
 some (AFr.al [(2, fr 2), (4, fr 4), (5, fr 5), (9, fr 9), (10, fr 10), (14, fr 14), (16, fr 16), (17, fr 17), (19, v231), (20, v232)], H)⟩⟩⟩⟩)
@[simp] def r30 (fr : AFr) (H : AHeap) : ARes :=
 areg (some (AFr.al [(2, fr 2), (4, fr 4), (5, fr 5), (9, fr 9), (10, fr 10), (14, fr 14), (16, fr 16), (17, fr 17), (19, fr 19), (233, (fr 20))], H))
@[simp] def r31 (fr : AFr) (H : AHeap) : ARes :=
 areg (@opi _ (lift (some (fr 19)) H) ⟨fun v234 H1 =>
 @opi _ (lift (afieldAddrR (some 0) (fr 9)) H1) ⟨fun v235 H2 =>
 @opi _ (lift (aindexAddrR (.arr 8 1) v235 v234) H2) ⟨fun v236 H3 =>
 @opi _ (lift (aloadR (some none) v236 H3) H3) ⟨fun v237 H4 =>
 @opi _ (lift (some (fr 19)) H4) ⟨fun v238 H5 =>
 @opi _ (lift (afieldAddrR (some 0) (fr 2)) H5) ⟨fun v239 H6 =>
 @opi _ (lift (aindexAddrR (.arr 8 1) v239 v238) H6) ⟨fun v240 H7 =>
 @opi _ (lift (aloadR (some none) v240 H7) H7) ⟨fun v241 H8 =>
 @opi _ (lift (afieldAddrR (some 4) (fr 16)) H8) ⟨fun v242 H9 =>
 @opi _ (liftS (astoreR (some 1) v242 v237 H9)) ⟨fun _ H10 =>
 @opi _ (lift (afieldAddrR (some 5) (fr 16)) H10) ⟨fun v243 H11 =>
 @opi _ (liftS (astoreR (some 1) v243 v241 H11)) ⟨fun _ H12 =>
 withChk [aloadR (some none) v240 H9 = aloadR (some none) v240 H10] (some (AFr.al [(4, fr 4), (5, fr 5), (9, fr 9), (10, fr 10), (14, fr 14), (16, fr 16), (17, fr 17)], H12))⟩⟩⟩⟩⟩⟩⟩⟩⟩⟩⟩⟩)
@[simp] def r32 (fr : AFr) (H : AHeap) : ARes :=
 areg (@opi _ (lift (abinR .x .eql (fr 17) (.int .i64 13)) H) ⟨fun v245 H =>
 @opi _ (@gdi (gw v245 false) ⟨lift (some (fr 17)) H⟩ H) ⟨fun v247 H =>
 @opi _ (@gdi (gw v245 false) ⟨lift (abinR .x .eql v247 (.int .i64 15)) H⟩ H) ⟨fun v248 H =>
 @opi _ (lift (apick v245 (.bool true) v248) H) ⟨fun v249 H =>
 some (AFr.al [(4, fr 4), (5, fr 5), (9, fr 9), (10, fr 10), (14, fr 14), (16, fr 16), (17, fr 17), (249, v249)], H)⟩⟩⟩⟩)
@[simp] def r33 (fr : AFr) (H : AHeap) : ARes :=
 areg (@opi _ (lift (afieldAddrR (some 2) (fr 16)) H) ⟨fun v250 H =>
 @opi _ (lift (aloadR (some none) v250 H) H) ⟨fun v251 H =>
 @opi _ (lift (afieldAddrR (some 4) (fr 16)) H) ⟨fun v252 H =>
 @opi _ (liftS (astoreR (some 1) v252 v251 H)) ⟨fun _ H =>
 some (AFr.al [(4, fr 4), (5, fr 5), (9, fr 9), (10, fr 10), (14, fr 14), (16, fr 16), (17, fr 17)], H)⟩⟩⟩⟩)
@[simp] def r34 (fr : AFr) (H : AHeap) : ARes :=
 areg (@opi _ (lift (abinR .x .eql (fr 17) (.int .i64 1)) H) ⟨fun v254 H =>
 @opi _ (@gdi (gw v254 false) ⟨lift (some (fr 17)) H⟩ H) ⟨fun v256 H =>
 @opi _ (@gdi (gw v254 false) ⟨lift (abinR .x .eql v256 (.int .i64 11)) H⟩ H) ⟨fun v257 H =>
 @opi _ (@gdi (gw v254 false) ⟨lift (some v257) H⟩ H) ⟨fun v258 H =>
 @opi _ (@gdi (gw v258 true) ⟨lift (afieldAddrR (some 4) (fr 14)) H⟩ H) ⟨fun v259 H =>
 @opi _ (@gdi (gw v258 true) ⟨lift (aloadR (some none) v259 H) H⟩ H) ⟨fun v260 H =>
 @opi _ (@gdi (gw v258 true) ⟨lift (abinR .x .eql v260 (.int .i64 10)) H⟩ H) ⟨fun v261 H =>
 @opi _ (@gdi (gw v254 false) ⟨lift (apick v258 v261 (.bool false)) H⟩ H) ⟨fun v262 H =>
 @opi _ (lift (apick v254 (.bool true) v262) H) ⟨fun v263 H =>
 some (AFr.al [(4, fr 4), (5, fr 5), (9, fr 9), (10, fr 10), (14, fr 14), (16, fr 16), (17, fr 17), (263, v263)], H)⟩⟩⟩⟩⟩⟩⟩⟩⟩)
@[simp] def r35 (fr : AFr) (H : AHeap) : ARes :=
 areg (@opi _ (lift (afieldAddrR (some 2) (fr 16)) H) ⟨fun v264 H =>
 @opi _ (lift (aloadR (some none) v264 H) H) ⟨fun v265 H =>
 @opi _ (lift (afieldAddrR (some 3) (fr 16)) H) ⟨fun v266 H =>
 @opi _ (lift (aloadR (some none) v266 H) H) ⟨fun v267 H =>
 @opi _ (lift (abinR .x .sub v265 v267) H) ⟨fun v268 H =>
 @opi _ (lift (afieldAddrR (some 4) (fr 16)) H) ⟨fun v269 H =>
 @opi _ (liftS (astoreR (some 1) v269 v268 H)) ⟨fun _ H =>
 some (AFr.al [(4, fr 4), (5, fr 5), (9, fr 9), (10, fr 10), (14, fr 14), (16, fr 16), (17, fr 17)], H)⟩⟩⟩⟩⟩⟩⟩)
@[simp] def r36 (fr : AFr) (H : AHeap) : ARes :=
 areg (@opi _ (lift (abinR .x .eql (fr 17) (.int .i64 11)) H) ⟨fun v271 H =>
 @opi _ (@gdi (gw v271 true) ⟨lift (afieldAddrR (some 4) (fr 14)) H⟩ H) ⟨fun v273 H =>
 @opi _ (@gdi (gw v271 true) ⟨lift (aloadR (some none) v273 H) H⟩ H) ⟨fun v274 H =>
 @opi _ (@gdi (gw v271 true) ⟨lift (abinR .x .eql v274 (.int .i64 8)) H⟩ H) ⟨fun v275 H =>
 @opi _ (lift (apick v271 v275 (.bool false)) H) ⟨fun v276 H =>
 some (AFr.al [(4, fr 4), (5, fr 5), (9, fr 9), (10, fr 10), (14, fr 14), (16, fr 16), (17, fr 17), (276, v276)], H)⟩⟩⟩⟩⟩)
@[simp] def r37 (fr : AFr) (H : AHeap) : ARes :=
 areg (@opi _ (lift (afieldAddrR (some 2) (fr 16)) H) ⟨fun v277 H =>
 @opi _ (lift (aloadR (some none) v277 H) H) ⟨fun v278 H =>
 @opi _ (lift (afieldAddrR (some 3) (fr 16)) H) ⟨fun v279 H =>
 @opi _ (lift (aloadR (some none) v279 H) H) ⟨fun v280 H =>
 @opi _ (lift (abinR .x .and v278 v280) H) ⟨fun v281 H =>
 @opi _ (lift (afieldAddrR (some 4) (fr 16)) H) ⟨fun v282 H =>
 @opi _ (liftS (astoreR (some 1) v282 v281 H)) ⟨fun _ H =>
 some (AFr.al [(4, fr 4), (5, fr 5), (9, fr 9), (10, fr 10), (14, fr 14), (16, fr 16), (17, fr 17)], H)⟩⟩⟩⟩⟩⟩⟩)
@[simp] def r38 (fr : AFr) (H : AHeap) : ARes :=
 areg (@opi _ (lift (abinR .x .eql (fr 17) (.int .i64 11)) H) ⟨fun v284 H =>
 @opi _ (@gdi (gw v284 true) ⟨lift (afieldAddrR (some 4) (fr 14)) H⟩ H) ⟨fun v286 H =>
 @opi _ (@gdi (gw v284 true) ⟨lift (aloadR (some none) v286 H) H⟩ H) ⟨fun v287 H =>
 @opi _ (@gdi (gw v284 true) ⟨lift (abinR .x .eql v287 (.int .i64 11)) H⟩ H) ⟨fun v288 H =>
 @opi _ (lift (apick v284 v288 (.bool false)) H) ⟨fun v289 H =>
 some (AFr.al [(4, fr 4), (5, fr 5), (9, fr 9), (10, fr 10), (16, fr 16), (289, v289)], H)⟩⟩⟩⟩⟩)
@[simp] def r39 (fr : AFr) (H : AHeap) : ARes :=
 areg (@opi _ (lift (afieldAddrR (some 2) (fr 16)) H) ⟨fun v290 H =>
 @opi _ (lift (aloadR (some none) v290 H) H) ⟨fun v291 H =>
 @opi _ (lift (afieldAddrR (some 3) (fr 16)) H) ⟨fun v292 H =>
 @opi _ (lift (aloadR (some none) v292 H) H) ⟨fun v293 H =>
 @opi _ (lift (abinR .x .add v291 v293) H) ⟨fun v294 H =>
 @opi _ (lift (afieldAddrR (some 4) (fr 16)) H) ⟨fun v295 H =>
 @opi _ (liftS (astoreR (some 1) v295 v294 H)) ⟨fun _ H =>
 some (AFr.al [(4, fr 4), (5, fr 5), (9, fr 9), (10, fr 10), (16, fr 16)], H)⟩⟩⟩⟩⟩⟩⟩)
@[simp] def r40 (fr : AFr) (H : AHeap) : ARes :=
 areg (@opi _ (lift (aloadR (some (some 13)) (fr 9) H) H) ⟨fun v296 H1 =>
 @opi _ (lift (aloadR (some (some 10)) (fr 16) H1) H1) ⟨fun v297 H2 =>
 @opi _ (lift (some (fr 10)) H2) ⟨fun v298 H3 =>
 @opi _ (liftS (astoreR (some 13) (fr 4) v296 H3)) ⟨fun _ H4 =>
 @opi _ (liftS (astoreR (some 10) (fr 5) v297 H4)) ⟨fun _ H5 =>
 @opi _ (lift (some v298) H5) ⟨fun v6 H6 =>
 @opi _ (lift (some (.int .i64 0)) H6) ⟨fun v7 H7 =>
 withChk [aloadR (some (some 10)) (fr 16) H3 = aloadR (some (some 10)) (fr 16) H4] (some (AFr.al [(4, fr 4), (5, fr 5), (6, v6), (7, v7)], H7))⟩⟩⟩⟩⟩⟩⟩)
@[simp] def body (s0 s1 : SpecM) (s2 s3 : SpecP) (fr : AFr) (H : AHeap) : ARes :=
  @aseqi (r0 fr H) ⟨fun fr H =>
 @aseqi (r1 fr H) ⟨fun fr H =>
 @aseqi (r2 s0 fr H) ⟨fun fr H =>
 @aseqi (@aseqi (r3 fr H) ⟨fun fr H =>
 @acondi (fr 33)
 ⟨@aseqi (r4 fr H) ⟨fun fr H =>
 some (.ret, fr, H)⟩⟩
 ⟨some (.normal, fr, H)⟩⟩) ⟨fun fr H =>
 @aseqi (r5 s1 fr H) ⟨fun fr H =>
 @aseqi (r6 s2 fr H) ⟨fun fr H =>
 @aseqi (r7 fr H) ⟨fun fr H =>
 @aseqi (r8 fr H) ⟨fun fr H =>
 @aseqi (@aseqi (r9 fr H) ⟨fun fr H =>
 @acondi (fr 77)
 ⟨r10 fr H⟩
 ⟨some (.normal, fr, H)⟩⟩) ⟨fun fr H =>
 @aseqi (@aseqi (r11 fr H) ⟨fun fr H =>
 @acondi (fr 97)
 ⟨r12 fr H⟩
 ⟨some (.normal, fr, H)⟩⟩) ⟨fun fr H =>
 @aseqi (@aseqi (r13 fr H) ⟨fun fr H =>
 @acondi (fr 109)
 ⟨r14 fr H⟩
 ⟨some (.normal, fr, H)⟩⟩) ⟨fun fr H =>
 @aseqi (@aseqi (r15 fr H) ⟨fun fr H =>
 @acondi (fr 129)
 ⟨r16 fr H⟩
 ⟨some (.normal, fr, H)⟩⟩) ⟨fun fr H =>
 @aseqi (@aseqi (r17 fr H) ⟨fun fr H =>
 @acondi (fr 149)
 ⟨r18 fr H⟩
 ⟨some (.normal, fr, H)⟩⟩) ⟨fun fr H =>
 @aseqi (@aseqi (r19 fr H) ⟨fun fr H =>
 @acondi (fr 157)
 ⟨r20 fr H⟩
 ⟨some (.normal, fr, H)⟩⟩) ⟨fun fr H =>
 @aseqi (r21 fr H) ⟨fun fr H =>
 @aseqi (@aseqi (r22 fr H) ⟨fun fr H =>
 @acondi (fr 173)
 ⟨r23 fr H⟩
 ⟨some (.normal, fr, H)⟩⟩) ⟨fun fr H =>
 @aseqi (@aseqi (r24 fr H) ⟨fun fr H =>
 @acondi (fr 188)
 ⟨r25 fr H⟩
 ⟨some (.normal, fr, H)⟩⟩) ⟨fun fr H =>
 @aseqi (@aseqi (r26 fr H) ⟨fun fr H =>
 @acondi (fr 202)
 ⟨r27 fr H⟩
 ⟨some (.normal, fr, H)⟩⟩) ⟨fun fr H =>
 @aseqi (r28 fr H) ⟨fun fr H =>
 @aseqi (@aseqi (r29 s3 fr H) ⟨fun fr H =>
 @aseqi (r30 fr H) ⟨fun fr H =>
 @acondi (fr 233)
 ⟨r31 fr H⟩
 ⟨some (.normal, fr, H)⟩⟩⟩) ⟨fun fr H =>
 @aseqi (@aseqi (r32 fr H) ⟨fun fr H =>
 @acondi (fr 249)
 ⟨r33 fr H⟩
 ⟨some (.normal, fr, H)⟩⟩) ⟨fun fr H =>
 @aseqi (@aseqi (r34 fr H) ⟨fun fr H =>
 @acondi (fr 263)
 ⟨r35 fr H⟩
 ⟨some (.normal, fr, H)⟩⟩) ⟨fun fr H =>
 @aseqi (@aseqi (r36 fr H) ⟨fun fr H =>
 @acondi (fr 276)
 ⟨r37 fr H⟩
 ⟨some (.normal, fr, H)⟩⟩) ⟨fun fr H =>
 @aseqi (@aseqi (r38 fr H) ⟨fun fr H =>
 @acondi (fr 289)
 ⟨r39 fr H⟩
 ⟨some (.normal, fr, H)⟩⟩) ⟨fun fr H =>
 @aseqi (r40 fr H) ⟨fun fr H =>
 some (.ret, fr, H)⟩⟩⟩⟩⟩⟩⟩⟩⟩⟩⟩⟩⟩⟩⟩⟩⟩⟩⟩⟩⟩⟩⟩⟩⟩
@[simp] def res (fr : AFr) (H : AHeap) : Option (List AV) := res2 (aloadR (some (some 13)) (fr 4) H) (res2 (aloadR (some (some 10)) (fr 5) H) (res2 (some (fr 6)) (res2 (some (fr 7)) (some []))))
end ref07_Step
def ref07_Step (a0 a1 : AV) (H : AHeap) : Option (AV × AHeap) := forget H (afinR ref07_Step.res (ref07_Step.body ref06_Step.spec ref05_Mem_Fetch.spec ref02_Take.spec ref02_Writes.spec (args0 [a0, a1]) H))
def ref07_Step.spec : List AV → AHeap → Option (AV × AHeap)
  | [a0, a1], H => ref07_Step a0 a1 H
  | _, _ => none
end
end Go.Abs
