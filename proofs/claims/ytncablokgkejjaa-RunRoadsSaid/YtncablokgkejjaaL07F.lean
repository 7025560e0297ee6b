/-
  The functions, as they are over abstract values. Printed by gen.py.
-/
import Derived.Test.YtncablokgkejjaaLoF
import Derived.Test.YtncablokgkejjaaLeF
import Derived.Test.YtncablokgkejjaaLrF
import Derived.Test.YtncablokgkejjaaCoF
set_option linter.unusedVariables false
namespace Go.Abs
noncomputable section
namespace law07_lives
def C (s0 s1 : SpecM) : Tab := ((Tab.none.add 15 (.ref [true, false, true] s0)).add 28 (.ref [true, false] s1))
@[simp] def r0 (fr : AFr) (H : AHeap) : ARes :=
 areg (some (AFr.al [], H))
@[simp] def r1 (s0 s1 : SpecM) (fr : AFr) (H : AHeap) : ARes :=
 areg (@opi _ (lift (abuildR (.arr [(W32 0#32), (W32 0#32), (W32 0#32), (W32 0#32), (W32 0#32), (W32 0#32), (W32 0#32), (W32 0#32)] 1) [(0, (W32 7#32))]) H) ⟨fun v6 H =>
 @opi _ (lift (abuildR (.str [(W32 0#32), (W32 0#32), (W32 0#32), (W32 0#32), (W32 0#32), (W32 0#32), (W32 0#32), (W32 0#32), (W32 0#32), (.bool false), (.bool false), (.bool false), (.bool false)] [(0, 8), (8, 1), (9, 1), (10, 1), (11, 1), (12, 1)]) [(0, v6)]) H) ⟨fun v7 H =>
 @opi _ (abuildSliceR (some ⟨T.ty_uint16, 1, 2, [(W16 0#16)]⟩) 1 [(0, (W16 8197#16))] H) ⟨fun v8 H =>
 @opi _ (callM [true, false, true] s0 [[some 1], [none], [some 1]] [v8, (.int .i64 1), .nils] H) ⟨fun v9 H =>
 @opi _ (callM [true, false] s1 [[none, none, none, none, none, none, none, none, none, none, none, none, none], [none]] [v7, v9] H) ⟨fun v10 H =>
 @opi _ (lift (aextract v10 0) H) ⟨fun v11 H =>
 @opi _ (lift (aextract v10 1) H) ⟨fun v12 H =>
 @opi _ (lift (aextract v10 2) H) ⟨fun v13 H =>
 @opi _ (lift (aextract v10 3) H) ⟨fun v14 H =>
 @opi _ (aallocR T.ty_api_State (some (.agg [(W32 0#32), (W32 0#32), (W32 0#32), (W32 0#32), (W32 0#32), (W32 0#32), (W32 0#32), (W32 0#32), (W32 0#32), (.bool false), (.bool false), (.bool false), (.bool false)])) H) ⟨fun v1 H =>
 @opi _ (aallocR T.ty_api_Leak (some (.agg [(W32 0#32), (W16 0#16), (W32 0#32), (W32 0#32), (W32 0#32), (W32 0#32), (W32 0#32), (W32 0#32), (.bool false), (.bool false)])) H) ⟨fun v2 H =>
 @opi _ (liftS (astoreR (some 13) v1 v11 H)) ⟨fun _ H =>
 @opi _ (liftS (astoreR (some 10) v2 v12 H)) ⟨fun _ H =>
 some (AFr.al [(2, v2), (4, v14)], H)⟩⟩⟩⟩⟩⟩⟩⟩⟩⟩⟩⟩⟩)
@[simp] def r2 (fr : AFr) (H : AHeap) : ARes :=
 areg (@opi _ (lift (abinR .x .eql (fr 4) (.int .i64 0)) H) ⟨fun v16 H =>
 @opi _ (@gdi (gw v16 true) ⟨lift (afieldAddrR (some 3) (fr 2)) H⟩ H) ⟨fun v18 H =>
 @opi _ (@gdi (gw v16 true) ⟨lift (aloadR (some none) v18 H) H⟩ H) ⟨fun v19 H =>
 @opi _ (@gdi (gw v16 true) ⟨lift (abinR .x .eql v19 (W32 5#32)) H⟩ H) ⟨fun v20 H =>
 @opi _ (lift (apick v16 v20 (.bool false)) H) ⟨fun v21 H =>
 @opi _ (@gdi (gw v21 true) ⟨lift (afieldAddrR (some 4) (fr 2)) H⟩ H) ⟨fun v23 H =>
 @opi _ (@gdi (gw v21 true) ⟨lift (aloadR (some none) v23 H) H⟩ H) ⟨fun v24 H =>
 @opi _ (@gdi (gw v21 true) ⟨lift (abinR .x .eql v24 (W32 5#32)) H⟩ H) ⟨fun v25 H =>
 @opi _ (lift (apick v21 v25 (.bool false)) H) ⟨fun v26 H =>
 @opi _ (@gdi (gw v26 true) ⟨lift (afieldAddrR (some 5) (fr 2)) H⟩ H) ⟨fun v28 H =>
 @opi _ (@gdi (gw v26 true) ⟨lift (aloadR (some none) v28 H) H⟩ H) ⟨fun v29 H =>
 @opi _ (@gdi (gw v26 true) ⟨lift (abinR .x .eql v29 (W32 7#32)) H⟩ H) ⟨fun v30 H =>
 @opi _ (lift (apick v26 v30 (.bool false)) H) ⟨fun v31 H =>
 @opi _ (@gdi (gw v31 true) ⟨lift (afieldAddrR (some 1) (fr 2)) H⟩ H) ⟨fun v33 H =>
 @opi _ (@gdi (gw v31 true) ⟨lift (aloadR (some none) v33 H) H⟩ H) ⟨fun v34 H =>
 @opi _ (@gdi (gw v31 true) ⟨lift (abinR .x .eql v34 (W16 8197#16)) H⟩ H) ⟨fun v35 H =>
 @opi _ (lift (apick v31 v35 (.bool false)) H) ⟨fun v36 H =>
 some (AFr.al [(0, v36)], H)⟩⟩⟩⟩⟩⟩⟩⟩⟩⟩⟩⟩⟩⟩⟩⟩⟩)
@[simp] def body (s0 s1 : SpecM) (fr : AFr) (H : AHeap) : ARes :=
  @aseqi (r0 fr H) ⟨fun fr H =>
 @aseqi (r1 s0 s1 fr H) ⟨fun fr H =>
 @aseqi (r2 fr H) ⟨fun fr H =>
 some (.ret, fr, H)⟩⟩⟩
@[simp] def res (fr : AFr) (H : AHeap) : Option (List AV) := res2 (some (fr 0)) (some [])
end law07_lives
def law07_lives : Option AV := closeUpR (some [[none]]) (afinR law07_lives.res (law07_lives.body mem_New.spec leak_Step.spec (args0 []) AHeap.empty))
def law07_lives.spec : List AV → Option AV
  | [] => law07_lives
  | _ => none
namespace law07_LeakBus
def C (s0 s1 s2 : SpecM) (s3 : SpecP) : Tab := ((((Tab.none.add 15 (.ref [true, false, true] s0)).add 28 (.ref [true, false] s1)).add 26 (.ref [false] s2)).add 29 (.pure false s3))
@[simp] def r0 (fr : AFr) (H : AHeap) : ARes :=
 areg (some (AFr.al [(0, fr 0)], H))
@[simp] def r1 (fr : AFr) (H : AHeap) : ARes :=
 areg (@opi _ (abuildSliceR (some ⟨T.ty_uint16, 1, 2, [(W16 0#16)]⟩) 0 [] H) ⟨fun v13 H =>
 some (AFr.al [(0, fr 0), (3, v13)], H)⟩)
@[simp] def r2 (fr : AFr) (H : AHeap) : ARes :=
 areg (some (AFr.al [(0, fr 0), (3, fr 3), (4, (.int .i64 0))], H))
@[simp] def r3 (fr : AFr) (H : AHeap) : ARes :=
 areg (@opi _ (lift (alenR .sl (fr 0)) H) ⟨fun v16 H =>
 @opi _ (lift (abinR .x .lss (fr 4) v16) H) ⟨fun v17 H =>
 @opi _ (@gdi (gw v17 true) ⟨lift (some (fr 4)) H⟩ H) ⟨fun v19 H =>
 @opi _ (@gdi (gw v17 true) ⟨lift (abinR .x .lss v19 (.int .i64 20)) H⟩ H) ⟨fun v20 H =>
 @opi _ (lift (apick v17 v20 (.bool false)) H) ⟨fun v21 H =>
 some (AFr.al [(0, fr 0), (3, fr 3), (4, fr 4), (21, v21)], H)⟩⟩⟩⟩⟩)
@[simp] def r5 (fr : AFr) (H : AHeap) : ARes :=
 areg (@opi _ (lift (some (fr 3)) H) ⟨fun v24 H1 =>
 @opi _ (lift (some (fr 0)) H1) ⟨fun v25 H2 =>
 @opi _ (lift (some (fr 4)) H2) ⟨fun v26 H3 =>
 @opi _ (lift (aindexAddrR (.sl 1) v25 v26) H3) ⟨fun v27 H4 =>
 @opi _ (lift (aloadR (some none) v27 H4) H4) ⟨fun v28 H5 =>
 @opi _ (lift (abinR .x .rem v28 (W32 2#32)) H5) ⟨fun v29 H6 =>
 @opi _ (lift (abinR .x .mul (W32 2048#32) v29) H6) ⟨fun v30 H7 =>
 @opi _ (lift (abinR .x .add (W32 24576#32) v30) H7) ⟨fun v31 H8 =>
 @opi _ (lift (some (fr 0)) H8) ⟨fun v32 H9 =>
 @opi _ (lift (some (fr 4)) H9) ⟨fun v33 H10 =>
 @opi _ (lift (aindexAddrR (.sl 1) v32 v33) H10) ⟨fun v34 H11 =>
 @opi _ (lift (aloadR (some none) v34 H11) H11) ⟨fun v35 H12 =>
 @opi _ (lift (abinR .x .quo v35 (W32 2#32)) H12) ⟨fun v36 H13 =>
 @opi _ (lift (abinR .x .rem v36 (W32 4#32)) H13) ⟨fun v37 H14 =>
 @opi _ (lift (abinR .x .mul (W32 64#32) v37) H14) ⟨fun v38 H15 =>
 @opi _ (lift (abinR .x .add v31 v38) H15) ⟨fun v39 H16 =>
 @opi _ (lift (abinR .x .add v39 (W32 8#32)) H16) ⟨fun v40 H17 =>
 @opi _ (lift (aconvR (some .u16) v40) H17) ⟨fun v41 H18 =>
 @opi _ (abuildSliceR (some ⟨T.ty_uint16, 1, 2, [(W16 0#16)]⟩) 1 [(0, v41)] H18) ⟨fun v42 H19 =>
 @opi _ (aappendR (some ⟨T.ty_uint16, 1, 2, [(W16 0#16)]⟩) v24 v42 H19) ⟨fun v43 H20 =>
 @opi _ (lift (some v43) H20) ⟨fun v3 H21 =>
 some (AFr.al [(0, fr 0), (3, v3), (4, fr 4)], H21)⟩⟩⟩⟩⟩⟩⟩⟩⟩⟩⟩⟩⟩⟩⟩⟩⟩⟩⟩⟩⟩)
@[simp] def r4 (fr : AFr) (H : AHeap) : ARes :=
 areg (@opi _ (lift (abinR .x .add (fr 4) (.int .i64 1)) H) ⟨fun v23 H =>
 some (AFr.al [(0, fr 0), (3, fr 3), (4, v23)], H)⟩)
@[simp] def r6 (s0 : SpecM) (fr : AFr) (H : AHeap) : ARes :=
 areg (@opi _ (callM [true, false, true] s0 [[some 1], [none], [some 1]] [(fr 3), (.int .i64 4), .nils] H) ⟨fun v45 H =>
 some (AFr.al [(0, fr 0), (3, fr 3), (5, v45)], H)⟩)
@[simp] def r7 (fr : AFr) (H : AHeap) : ARes :=
 areg (@opi _ (lift (abinR .p .eql (fr 5) .nilp) H) ⟨fun v47 H =>
 some (AFr.al [(0, fr 0), (3, fr 3), (5, fr 5), (47, v47)], H)⟩)
@[simp] def r8 (fr : AFr) (H : AHeap) : ARes :=
 areg (some (AFr.al [(2, (.bool false))], H))
@[simp] def r9 (fr : AFr) (H : AHeap) : ARes :=
 areg (@opi _ (lift (abuildR (.arr [(W32 0#32), (W32 0#32), (W32 0#32), (W32 0#32), (W32 0#32), (W32 0#32), (W32 0#32), (W32 0#32)] 1) [(0, (W32 5#32)), (1, (W32 536870912#32))]) H) ⟨fun v48 H =>
 @opi _ (lift (abuildR (.str [(W32 0#32), (W32 0#32), (W32 0#32), (W32 0#32), (W32 0#32), (W32 0#32), (W32 0#32), (W32 0#32), (W32 0#32), (.bool false), (.bool false), (.bool false), (.bool false)] [(0, 8), (8, 1), (9, 1), (10, 1), (11, 1), (12, 1)]) [(0, v48)]) H) ⟨fun v49 H =>
 @opi _ (aallocR T.ty_api_State (some (.agg [(W32 0#32), (W32 0#32), (W32 0#32), (W32 0#32), (W32 0#32), (W32 0#32), (W32 0#32), (W32 0#32), (W32 0#32), (.bool false), (.bool false), (.bool false), (.bool false)])) H) ⟨fun v6 H =>
 @opi _ (liftS (astoreR (some 13) v6 v49 H)) ⟨fun _ H =>
 some (AFr.al [(0, fr 0), (3, fr 3), (5, fr 5), (6, v6)], H)⟩⟩⟩⟩)
@[simp] def r10 (fr : AFr) (H : AHeap) : ARes :=
 areg (some (AFr.al [(0, fr 0), (3, fr 3), (5, fr 5), (6, fr 6), (7, (W32 0#32))], H))
@[simp] def r11 (fr : AFr) (H : AHeap) : ARes :=
 areg (some (AFr.al [(0, fr 0), (3, fr 3), (5, fr 5), (6, fr 6), (7, fr 7), (8, (.int .i64 0))], H))
@[simp] def r12 (fr : AFr) (H : AHeap) : ARes :=
 areg (@opi _ (lift (alenR .sl (fr 3)) H) ⟨fun v52 H =>
 @opi _ (lift (abinR .x .lss (fr 8) v52) H) ⟨fun v53 H =>
 some (AFr.al [(0, fr 0), (3, fr 3), (5, fr 5), (6, fr 6), (7, fr 7), (8, fr 8), (53, v53)], H)⟩⟩)
@[simp] def r14 (s1 : SpecM) (fr : AFr) (H : AHeap) : ARes :=
 areg (@opi _ (lift (aloadR (some (some 13)) (fr 6) H) H) ⟨fun v57 H =>
 @opi _ (callM [true, false] s1 [[none, none, none, none, none, none, none, none, none, none, none, none, none], [none]] [v57, (fr 5)] H) ⟨fun v59 H =>
 @opi _ (lift (aextract v59 0) H) ⟨fun v60 H =>
 @opi _ (lift (aextract v59 1) H) ⟨fun v61 H =>
 @opi _ (lift (aextract v59 2) H) ⟨fun v62 H =>
 @opi _ (lift (aextract v59 3) H) ⟨fun v63 H =>
 @opi _ (aallocR T.ty_api_State (some (.agg [(W32 0#32), (W32 0#32), (W32 0#32), (W32 0#32), (W32 0#32), (W32 0#32), (W32 0#32), (W32 0#32), (W32 0#32), (.bool false), (.bool false), (.bool false), (.bool false)])) H) ⟨fun v9 H =>
 @opi _ (aallocR T.ty_api_Leak (some (.agg [(W32 0#32), (W16 0#16), (W32 0#32), (W32 0#32), (W32 0#32), (W32 0#32), (W32 0#32), (W32 0#32), (.bool false), (.bool false)])) H) ⟨fun v10 H =>
 @opi _ (liftS (astoreR (some 13) v9 v60 H)) ⟨fun _ H =>
 @opi _ (liftS (astoreR (some 10) v10 v61 H)) ⟨fun _ H =>
 some (AFr.al [(0, fr 0), (3, fr 3), (5, fr 5), (6, fr 6), (7, fr 7), (8, fr 8), (9, v9), (10, v10), (12, v63)], H)⟩⟩⟩⟩⟩⟩⟩⟩⟩⟩)
@[simp] def r15 (fr : AFr) (H : AHeap) : ARes :=
 areg (@opi _ (lift (some (fr 12)) H) ⟨fun v64 H1 =>
 @opi _ (lift (abinR .x .neq v64 (.int .i64 0)) H1) ⟨fun v65 H2 =>
 @opi _ (lift (some v65) H2) ⟨fun v66 H3 =>
 @opi _ (@gdi (gw v66 false) ⟨lift (afieldAddrR (some 6) (fr 10)) H3⟩ H3) ⟨fun v67 H4 =>
 @opi _ (@gdi (gw v66 false) ⟨lift (aloadR (some none) v67 H4) H4⟩ H4) ⟨fun v68 H5 =>
 @opi _ (@gdi (gw v66 false) ⟨lift (some (fr 7)) H5⟩ H5) ⟨fun v69 H6 =>
 @opi _ (@gdi (gw v66 false) ⟨lift (abinR .x .neq v68 v69) H6⟩ H6) ⟨fun v70 H7 =>
 @opi _ (lift (apick v66 (.bool true) v70) H7) ⟨fun v71 H8 =>
 @opi _ (lift (some v71) H8) ⟨fun v72 H9 =>
 @opi _ (@gdi (gw v72 false) ⟨lift (afieldAddrR (some 8) (fr 10)) H9⟩ H9) ⟨fun v73 H10 =>
 @opi _ (@gdi (gw v72 false) ⟨lift (aloadR (some none) v73 H10) H10⟩ H10) ⟨fun v74 H11 =>
 @opi _ (@gdi (gw v72 false) ⟨lift (aun .not v74) H11⟩ H11) ⟨fun v75 H12 =>
 @opi _ (lift (apick v72 (.bool true) v75) H12) ⟨fun v76 H13 =>
 @opi _ (lift (some v76) H13) ⟨fun v77 H14 =>
 @opi _ (@gdi (gw v77 false) ⟨lift (afieldAddrR (some 7) (fr 10)) H14⟩ H14) ⟨fun v78 H15 =>
 @opi _ (@gdi (gw v77 false) ⟨lift (aloadR (some none) v78 H15) H15⟩ H15) ⟨fun v79 H16 =>
 @opi _ (@gdi (gw v77 false) ⟨lift (some (fr 0)) H16⟩ H16) ⟨fun v80 H17 =>
 @opi _ (@gdi (gw v77 false) ⟨lift (some (fr 8)) H17⟩ H17) ⟨fun v81 H18 =>
 @opi _ (@gdi (gw v77 false) ⟨lift (aindexAddrR (.sl 1) v80 v81) H18⟩ H18) ⟨fun v82 H19 =>
 @opi _ (@gdi (gw v77 false) ⟨lift (aloadR (some none) v82 H19) H19⟩ H19) ⟨fun v83 H20 =>
 @opi _ (@gdi (gw v77 false) ⟨lift (abinR .x .quo v83 (W32 2#32)) H20⟩ H20) ⟨fun v84 H21 =>
 @opi _ (@gdi (gw v77 false) ⟨lift (abinR .x .rem v84 (W32 4#32)) H21⟩ H21) ⟨fun v85 H22 =>
 @opi _ (@gdi (gw v77 false) ⟨lift (abinR .x .mul (W32 4#32) v85) H22⟩ H22) ⟨fun v86 H23 =>
 @opi _ (@gdi (gw v77 false) ⟨lift (abinR .x .add (W32 536870912#32) v86) H23⟩ H23) ⟨fun v87 H24 =>
 @opi _ (@gdi (gw v77 false) ⟨lift (abinR .x .neq v79 v87) H24⟩ H24) ⟨fun v88 H25 =>
 @opi _ (lift (apick v77 (.bool true) v88) H25) ⟨fun v89 H26 =>
 @opi _ (lift (some v89) H26) ⟨fun v90 H27 =>
 @opi _ (@gdi (gw v90 false) ⟨lift (afieldAddrR (some 9) (fr 10)) H27⟩ H27) ⟨fun v91 H28 =>
 @opi _ (@gdi (gw v90 false) ⟨lift (aloadR (some none) v91 H28) H28⟩ H28) ⟨fun v92 H29 =>
 @opi _ (lift (apick v90 (.bool true) v92) H29) ⟨fun v93 H30 =>
 some (AFr.al [(0, fr 0), (3, fr 3), (5, fr 5), (6, fr 6), (8, fr 8), (9, fr 9), (10, fr 10), (93, v93)], H30)⟩⟩⟩⟩⟩⟩⟩⟩⟩⟩⟩⟩⟩⟩⟩⟩⟩⟩⟩⟩⟩⟩⟩⟩⟩⟩⟩⟩⟩⟩)
@[simp] def r16 (fr : AFr) (H : AHeap) : ARes :=
 areg (some (AFr.al [(2, (.bool false))], H))
@[simp] def r17 (fr : AFr) (H : AHeap) : ARes :=
 areg (@opi _ (lift (afieldAddrR (some 0) (fr 9)) H) ⟨fun v94 H =>
 @opi _ (lift (aindexAddrR (.arr 8 1) v94 (.int .i64 0)) H) ⟨fun v95 H =>
 @opi _ (lift (aloadR (some none) v95 H) H) ⟨fun v96 H =>
 @opi _ (lift (abinR .x .add v96 (W32 3#32)) H) ⟨fun v97 H =>
 @opi _ (lift (afieldAddrR (some 0) (fr 9)) H) ⟨fun v98 H =>
 @opi _ (lift (aindexAddrR (.arr 8 1) v98 (.int .i64 0)) H) ⟨fun v99 H =>
 @opi _ (liftS (astoreR (some 1) v99 v97 H)) ⟨fun _ H =>
 some (AFr.al [(0, fr 0), (3, fr 3), (5, fr 5), (6, fr 6), (8, fr 8), (9, fr 9), (10, fr 10)], H)⟩⟩⟩⟩⟩⟩⟩)
@[simp] def r18 (fr : AFr) (H : AHeap) : ARes :=
 areg (@opi _ (lift (aloadR (some (some 13)) (fr 9) H) H) ⟨fun v100 H1 =>
 @opi _ (lift (afieldAddrR (some 4) (fr 10)) H1) ⟨fun v101 H2 =>
 @opi _ (lift (aloadR (some none) v101 H2) H2) ⟨fun v102 H3 =>
 @opi _ (liftS (astoreR (some 13) (fr 6) v100 H3)) ⟨fun _ H4 =>
 @opi _ (lift (some v102) H4) ⟨fun v7 H5 =>
 withChk [aloadR (some none) v101 H3 = aloadR (some none) v101 H4] (some (AFr.al [(0, fr 0), (3, fr 3), (5, fr 5), (6, fr 6), (7, v7), (8, fr 8)], H5))⟩⟩⟩⟩⟩)
@[simp] def r13 (fr : AFr) (H : AHeap) : ARes :=
 areg (@opi _ (lift (abinR .x .add (fr 8) (.int .i64 1)) H) ⟨fun v55 H =>
 some (AFr.al [(0, fr 0), (3, fr 3), (5, fr 5), (6, fr 6), (7, fr 7), (8, v55)], H)⟩)
@[simp] def r19 (s2 : SpecM) (s3 : SpecP) (fr : AFr) (H : AHeap) : ARes :=
 areg (@opi _ (callM [false] s2 [[none]] [(fr 5)] H) ⟨fun v104 H =>
 @opi _ (lift (abinR .x .eql v104 (fr 7)) H) ⟨fun v106 H =>
 @opi _ (@gdi (gw v106 true) ⟨callP false s3 [] [] H⟩ H) ⟨fun v108 H =>
 @opi _ (lift (apick v106 v108 (.bool false)) H) ⟨fun v109 H =>
 some (AFr.al [(2, v109)], H)⟩⟩⟩⟩)
def l0 (s0 s1 s2 : SpecM) (s3 : SpecP) (fr : AFr) (H : AHeap) : ARes :=
  @aseqi (@aseqi (r3 fr H) ⟨fun fr H =>
 @acondi (fr 21)
 ⟨some (.normal, fr, H)⟩
 ⟨some (.exit 0, fr, H)⟩⟩) ⟨fun fr H =>
 @aseqi (aexit 1 (r5 fr H)) ⟨fun fr H =>
 r4 fr H⟩⟩
def l1 (s0 s1 s2 : SpecM) (s3 : SpecP) (fr : AFr) (H : AHeap) : ARes :=
  @aseqi (@aseqi (r12 fr H) ⟨fun fr H =>
 @acondi (fr 53)
 ⟨some (.normal, fr, H)⟩
 ⟨some (.exit 2, fr, H)⟩⟩) ⟨fun fr H =>
 @aseqi (aexit 3 (@aseqi (r14 s1 fr H) ⟨fun fr H =>
 @aseqi (@aseqi (r15 fr H) ⟨fun fr H =>
 @acondi (fr 93)
 ⟨@aseqi (r16 fr H) ⟨fun fr H =>
 some (.ret, fr, H)⟩⟩
 ⟨some (.normal, fr, H)⟩⟩) ⟨fun fr H =>
 @aseqi (r17 fr H) ⟨fun fr H =>
 r18 fr H⟩⟩⟩)) ⟨fun fr H =>
 r13 fr H⟩⟩
@[simp] def body (s0 s1 s2 : SpecM) (s3 : SpecP) (fr : AFr) (H : AHeap) : ARes :=
  @aseqi (r0 fr H) ⟨fun fr H =>
 @aseqi (r1 fr H) ⟨fun fr H =>
 @aseqi (@aseqi (r2 fr H) ⟨fun fr H =>
  aexit 0 (aloop (l0 s0 s1 s2 s3) fr H)⟩) ⟨fun fr H =>
 @aseqi (r6 s0 fr H) ⟨fun fr H =>
 @aseqi (@aseqi (r7 fr H) ⟨fun fr H =>
 @acondi (fr 47)
 ⟨@aseqi (r8 fr H) ⟨fun fr H =>
 some (.ret, fr, H)⟩⟩
 ⟨some (.normal, fr, H)⟩⟩) ⟨fun fr H =>
 @aseqi (r9 fr H) ⟨fun fr H =>
 @aseqi (r10 fr H) ⟨fun fr H =>
 @aseqi (@aseqi (r11 fr H) ⟨fun fr H =>
  aexit 2 (aloop (l1 s0 s1 s2 s3) fr H)⟩) ⟨fun fr H =>
 @aseqi (r19 s2 s3 fr H) ⟨fun fr H =>
 some (.ret, fr, H)⟩⟩⟩⟩⟩⟩⟩⟩⟩
@[simp] def res (fr : AFr) (H : AHeap) : Option (List AV) := res2 (some (fr 2)) (some [])
end law07_LeakBus
def law07_LeakBus (a0 : AV) : Option AV := closeUpR (some [[none]]) (afinR law07_LeakBus.res (law07_LeakBus.body mem_New.spec leak_Step.spec mem_Mem_Bus.spec law07_lives.spec (args0 [a0]) AHeap.empty))
def law07_LeakBus.spec : List AV → Option AV
  | [a0] => law07_LeakBus a0
  | _ => none
end
end Go.Abs
