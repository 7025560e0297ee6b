/-
  The functions, as they are over abstract values. Printed by gen.py.
-/
import Derived.Test.YtncablokgkejjaaLoF
import Derived.Test.YtncablokgkejjaaLeF
import Derived.Test.YtncablokgkejjaaLrF
import Derived.Test.YtncablokgkejjaaCoF
set_option linter.unusedVariables false
namespace Go.Abs
noncomputable section
namespace law07_lives
def C (s0 s1 : SpecM) : Tab := ((Tab.none.add 15 (.ref [true, false, true] s0)).add 28 (.ref [true, false] s1))
@[simp] def r0 (fr : AFr) (H : AHeap) : ARes :=
 areg (e' [] H)
@[simp] def r1 (s0 s1 : SpecM) (fr : AFr) (H : AHeap) : ARes :=
 areg (q' (abuildR (.arr [(W32 0#32), (W32 0#32), (W32 0#32), (W32 0#32), (W32 0#32), (W32 0#32), (W32 0#32), (W32 0#32)] 1) [(0, (W32 7#32))]) H ⟨fun v6 H =>
 q' (abuildR (.str [(W32 0#32), (W32 0#32), (W32 0#32), (W32 0#32), (W32 0#32), (W32 0#32), (W32 0#32), (W32 0#32), (W32 0#32), (.bool false), (.bool false), (.bool false), (.bool false)] [(0, 8), (8, 1), (9, 1), (10, 1), (11, 1), (12, 1)]) [(0, v6)]) H ⟨fun v7 H =>
 o' (abuildSliceR (some ⟨T.ty_uint16, 1, 2, [(W16 0#16)]⟩) 1 [(0, (W16 8197#16))] H) ⟨fun v8 H =>
 o' (callM [true, false, true] s0 [[some 1], [none], [some 1]] [v8, (.int .i64 1), .nils] H) ⟨fun v9 H =>
 o' (callM [true, false] s1 [[none, none, none, none, none, none, none, none, none, none, none, none, none], [none]] [v7, v9] H) ⟨fun v10 H =>
 q' (aextract v10 0) H ⟨fun v11 H =>
 q' (aextract v10 1) H ⟨fun v12 H =>
 q' (aextract v10 2) H ⟨fun v13 H =>
 q' (aextract v10 3) H ⟨fun v14 H =>
 o' (aallocR T.ty_api_State (some (.agg [(W32 0#32), (W32 0#32), (W32 0#32), (W32 0#32), (W32 0#32), (W32 0#32), (W32 0#32), (W32 0#32), (W32 0#32), (.bool false), (.bool false), (.bool false), (.bool false)])) H) ⟨fun v1 H =>
 o' (aallocR T.ty_api_Leak (some (.agg [(W32 0#32), (W16 0#16), (W32 0#32), (W32 0#32), (W32 0#32), (W32 0#32), (W32 0#32), (W32 0#32), (.bool false), (.bool false)])) H) ⟨fun v2 H =>
 w' (astoreR (some 13) v1 v11 H) ⟨fun _ H =>
 w' (astoreR (some 10) v2 v12 H) ⟨fun _ H =>
 e' [(2, v2), (4, v14)] H⟩⟩⟩⟩⟩⟩⟩⟩⟩⟩⟩⟩⟩)
@[simp] def r2 (fr : AFr) (H : AHeap) : ARes :=
 areg (q' (bn' .eql (fr 4) (.int .i64 0)) H ⟨fun v16 H =>
 G' v16 true ⟨fa' 3 (fr 2)⟩ H ⟨fun v18 H =>
 G' v16 true ⟨ld' v18 H⟩ H ⟨fun v19 H =>
 G' v16 true ⟨bn' .eql v19 (W32 5#32)⟩ H ⟨fun v20 H =>
 q' (apick v16 v20 (.bool false)) H ⟨fun v21 H =>
 G' v21 true ⟨fa' 4 (fr 2)⟩ H ⟨fun v23 H =>
 G' v21 true ⟨ld' v23 H⟩ H ⟨fun v24 H =>
 G' v21 true ⟨bn' .eql v24 (W32 5#32)⟩ H ⟨fun v25 H =>
 q' (apick v21 v25 (.bool false)) H ⟨fun v26 H =>
 G' v26 true ⟨fa' 5 (fr 2)⟩ H ⟨fun v28 H =>
 G' v26 true ⟨ld' v28 H⟩ H ⟨fun v29 H =>
 G' v26 true ⟨bn' .eql v29 (W32 7#32)⟩ H ⟨fun v30 H =>
 q' (apick v26 v30 (.bool false)) H ⟨fun v31 H =>
 G' v31 true ⟨fa' 1 (fr 2)⟩ H ⟨fun v33 H =>
 G' v31 true ⟨ld' v33 H⟩ H ⟨fun v34 H =>
 G' v31 true ⟨bn' .eql v34 (W16 8197#16)⟩ H ⟨fun v35 H =>
 q' (apick v31 v35 (.bool false)) H ⟨fun v36 H =>
 e' [(0, v36)] H⟩⟩⟩⟩⟩⟩⟩⟩⟩⟩⟩⟩⟩⟩⟩⟩⟩)
@[simp] def body (s0 s1 : SpecM) (fr : AFr) (H : AHeap) : ARes :=
  s' (r0 fr H) ⟨fun fr H =>
 s' (r1 s0 s1 fr H) ⟨fun fr H =>
 s' (r2 fr H) ⟨fun fr H =>
 some (.ret, fr, H)⟩⟩⟩
@[simp] def res (fr : AFr) (H : AHeap) : Option (List AV) := res2 (some (fr 0)) (some [])
end law07_lives
def law07_lives : Option AV := closeUpR (some [[none]]) (afinR law07_lives.res (law07_lives.body mem_New.spec leak_Step.spec (args0 []) AHeap.empty))
def law07_lives.spec : List AV → Option AV
  | [] => law07_lives
  | _ => none
namespace law07_LeakBus
@[simp] def r0 (fr : AFr) (H : AHeap) : ARes :=
 areg (e' [(0, fr 0)] H)
@[simp] def r1 (fr : AFr) (H : AHeap) : ARes :=
 areg (o' (abuildSliceR (some ⟨T.ty_uint16, 1, 2, [(W16 0#16)]⟩) 0 [] H) ⟨fun v13 H =>
 e' [(0, fr 0), (3, v13)] H⟩)
@[simp] def r2 (fr : AFr) (H : AHeap) : ARes :=
 areg (e' [(0, fr 0), (3, fr 3), (4, (.int .i64 0))] H)
@[simp] def r3 (fr : AFr) (H : AHeap) : ARes :=
 areg (q' (alenR .sl (fr 0)) H ⟨fun v16 H =>
 q' (bn' .lss (fr 4) v16) H ⟨fun v17 H =>
 G' v17 true ⟨some (fr 4)⟩ H ⟨fun v19 H =>
 G' v17 true ⟨bn' .lss v19 (.int .i64 20)⟩ H ⟨fun v20 H =>
 q' (apick v17 v20 (.bool false)) H ⟨fun v21 H =>
 e' [(0, fr 0), (3, fr 3), (4, fr 4), (21, v21)] H⟩⟩⟩⟩⟩)
@[simp] def r5 (fr : AFr) (H : AHeap) : ARes :=
 areg (q' (some (fr 3)) H ⟨fun v24 H1 =>
 q' (some (fr 0)) H1 ⟨fun v25 H2 =>
 q' (some (fr 4)) H2 ⟨fun v26 H3 =>
 q' (aindexAddrR (.sl 1) v25 v26) H3 ⟨fun v27 H4 =>
 q' (ld' v27 H4) H4 ⟨fun v28 H5 =>
 q' (bn' .rem v28 (W32 2#32)) H5 ⟨fun v29 H6 =>
 q' (bn' .mul (W32 2048#32) v29) H6 ⟨fun v30 H7 =>
 q' (bn' .add (W32 24576#32) v30) H7 ⟨fun v31 H8 =>
 q' (some (fr 0)) H8 ⟨fun v32 H9 =>
 q' (some (fr 4)) H9 ⟨fun v33 H10 =>
 q' (aindexAddrR (.sl 1) v32 v33) H10 ⟨fun v34 H11 =>
 q' (ld' v34 H11) H11 ⟨fun v35 H12 =>
 q' (bn' .quo v35 (W32 2#32)) H12 ⟨fun v36 H13 =>
 q' (bn' .rem v36 (W32 4#32)) H13 ⟨fun v37 H14 =>
 q' (bn' .mul (W32 64#32) v37) H14 ⟨fun v38 H15 =>
 q' (bn' .add v31 v38) H15 ⟨fun v39 H16 =>
 q' (bn' .add v39 (W32 8#32)) H16 ⟨fun v40 H17 =>
 q' (aconvR (some .u16) v40) H17 ⟨fun v41 H18 =>
 o' (abuildSliceR (some ⟨T.ty_uint16, 1, 2, [(W16 0#16)]⟩) 1 [(0, v41)] H18) ⟨fun v42 H19 =>
 o' (aappendR (some ⟨T.ty_uint16, 1, 2, [(W16 0#16)]⟩) v24 v42 H19) ⟨fun v43 H20 =>
 q' (some v43) H20 ⟨fun v3 H21 =>
 e' [(0, fr 0), (3, v3), (4, fr 4)] H21⟩⟩⟩⟩⟩⟩⟩⟩⟩⟩⟩⟩⟩⟩⟩⟩⟩⟩⟩⟩⟩)
@[simp] def r4 (fr : AFr) (H : AHeap) : ARes :=
 areg (q' (bn' .add (fr 4) (.int .i64 1)) H ⟨fun v23 H =>
 e' [(0, fr 0), (3, fr 3), (4, v23)] H⟩)
@[simp] def r6 (s0 : SpecM) (fr : AFr) (H : AHeap) : ARes :=
 areg (o' (callM [true, false, true] s0 [[some 1], [none], [some 1]] [(fr 3), (.int .i64 4), .nils] H) ⟨fun v45 H =>
 e' [(0, fr 0), (3, fr 3), (5, v45)] H⟩)
@[simp] def r7 (fr : AFr) (H : AHeap) : ARes :=
 areg (q' (abinR .p .eql (fr 5) .nilp) H ⟨fun v47 H =>
 e' [(0, fr 0), (3, fr 3), (5, fr 5), (47, v47)] H⟩)
@[simp] def r8 (fr : AFr) (H : AHeap) : ARes :=
 areg (e' [(2, (.bool false))] H)
@[simp] def r9 (fr : AFr) (H : AHeap) : ARes :=
 areg (q' (abuildR (.arr [(W32 0#32), (W32 0#32), (W32 0#32), (W32 0#32), (W32 0#32), (W32 0#32), (W32 0#32), (W32 0#32)] 1) [(0, (W32 5#32)), (1, (W32 536870912#32))]) H ⟨fun v48 H =>
 q' (abuildR (.str [(W32 0#32), (W32 0#32), (W32 0#32), (W32 0#32), (W32 0#32), (W32 0#32), (W32 0#32), (W32 0#32), (W32 0#32), (.bool false), (.bool false), (.bool false), (.bool false)] [(0, 8), (8, 1), (9, 1), (10, 1), (11, 1), (12, 1)]) [(0, v48)]) H ⟨fun v49 H =>
 o' (aallocR T.ty_api_State (some (.agg [(W32 0#32), (W32 0#32), (W32 0#32), (W32 0#32), (W32 0#32), (W32 0#32), (W32 0#32), (W32 0#32), (W32 0#32), (.bool false), (.bool false), (.bool false), (.bool false)])) H) ⟨fun v6 H =>
 w' (astoreR (some 13) v6 v49 H) ⟨fun _ H =>
 e' [(0, fr 0), (3, fr 3), (5, fr 5), (6, v6)] H⟩⟩⟩⟩)
@[simp] def r10 (fr : AFr) (H : AHeap) : ARes :=
 areg (e' [(0, fr 0), (3, fr 3), (5, fr 5), (6, fr 6), (7, (W32 0#32))] H)
@[simp] def r11 (fr : AFr) (H : AHeap) : ARes :=
 areg (e' [(0, fr 0), (3, fr 3), (5, fr 5), (6, fr 6), (7, fr 7), (8, (.int .i64 0))] H)
@[simp] def r12 (fr : AFr) (H : AHeap) : ARes :=
 areg (q' (alenR .sl (fr 3)) H ⟨fun v52 H =>
 q' (bn' .lss (fr 8) v52) H ⟨fun v53 H =>
 e' [(0, fr 0), (3, fr 3), (5, fr 5), (6, fr 6), (7, fr 7), (8, fr 8), (53, v53)] H⟩⟩)
@[simp] def r14 (s1 : SpecM) (fr : AFr) (H : AHeap) : ARes :=
 areg (q' (Ld' 13 (fr 6) H) H ⟨fun v57 H =>
 o' (callM [true, false] s1 [[none, none, none, none, none, none, none, none, none, none, none, none, none], [none]] [v57, (fr 5)] H) ⟨fun v59 H =>
 q' (aextract v59 0) H ⟨fun v60 H =>
 q' (aextract v59 1) H ⟨fun v61 H =>
 q' (aextract v59 2) H ⟨fun v62 H =>
 q' (aextract v59 3) H ⟨fun v63 H =>
 o' (aallocR T.ty_api_State (some (.agg [(W32 0#32), (W32 0#32), (W32 0#32), (W32 0#32), (W32 0#32), (W32 0#32), (W32 0#32), (W32 0#32), (W32 0#32), (.bool false), (.bool false), (.bool false), (.bool false)])) H) ⟨fun v9 H =>
 o' (aallocR T.ty_api_Leak (some (.agg [(W32 0#32), (W16 0#16), (W32 0#32), (W32 0#32), (W32 0#32), (W32 0#32), (W32 0#32), (W32 0#32), (.bool false), (.bool false)])) H) ⟨fun v10 H =>
 w' (astoreR (some 13) v9 v60 H) ⟨fun _ H =>
 w' (astoreR (some 10) v10 v61 H) ⟨fun _ H =>
 e' [(0, fr 0), (3, fr 3), (5, fr 5), (6, fr 6), (7, fr 7), (8, fr 8), (9, v9), (10, v10), (12, v63)] H⟩⟩⟩⟩⟩⟩⟩⟩⟩⟩)
@[simp] def r15 (fr : AFr) (H : AHeap) : ARes :=
 areg (q' (some (fr 12)) H ⟨fun v64 H1 =>
 q' (bn' .neq v64 (.int .i64 0)) H1 ⟨fun v65 H2 =>
 q' (some v65) H2 ⟨fun v66 H3 =>
 G' v66 false ⟨fa' 6 (fr 10)⟩ H3 ⟨fun v67 H4 =>
 G' v66 false ⟨ld' v67 H4⟩ H4 ⟨fun v68 H5 =>
 G' v66 false ⟨some (fr 7)⟩ H5 ⟨fun v69 H6 =>
 G' v66 false ⟨bn' .neq v68 v69⟩ H6 ⟨fun v70 H7 =>
 q' (apick v66 (.bool true) v70) H7 ⟨fun v71 H8 =>
 q' (some v71) H8 ⟨fun v72 H9 =>
 G' v72 false ⟨fa' 8 (fr 10)⟩ H9 ⟨fun v73 H10 =>
 G' v72 false ⟨ld' v73 H10⟩ H10 ⟨fun v74 H11 =>
 G' v72 false ⟨aun .not v74⟩ H11 ⟨fun v75 H12 =>
 q' (apick v72 (.bool true) v75) H12 ⟨fun v76 H13 =>
 q' (some v76) H13 ⟨fun v77 H14 =>
 G' v77 false ⟨fa' 7 (fr 10)⟩ H14 ⟨fun v78 H15 =>
 G' v77 false ⟨ld' v78 H15⟩ H15 ⟨fun v79 H16 =>
 G' v77 false ⟨some (fr 0)⟩ H16 ⟨fun v80 H17 =>
 G' v77 false ⟨some (fr 8)⟩ H17 ⟨fun v81 H18 =>
 G' v77 false ⟨aindexAddrR (.sl 1) v80 v81⟩ H18 ⟨fun v82 H19 =>
 G' v77 false ⟨ld' v82 H19⟩ H19 ⟨fun v83 H20 =>
 G' v77 false ⟨bn' .quo v83 (W32 2#32)⟩ H20 ⟨fun v84 H21 =>
 G' v77 false ⟨bn' .rem v84 (W32 4#32)⟩ H21 ⟨fun v85 H22 =>
 G' v77 false ⟨bn' .mul (W32 4#32) v85⟩ H22 ⟨fun v86 H23 =>
 G' v77 false ⟨bn' .add (W32 536870912#32) v86⟩ H23 ⟨fun v87 H24 =>
 G' v77 false ⟨bn' .neq v79 v87⟩ H24 ⟨fun v88 H25 =>
 q' (apick v77 (.bool true) v88) H25 ⟨fun v89 H26 =>
 q' (some v89) H26 ⟨fun v90 H27 =>
 G' v90 false ⟨fa' 9 (fr 10)⟩ H27 ⟨fun v91 H28 =>
 G' v90 false ⟨ld' v91 H28⟩ H28 ⟨fun v92 H29 =>
 q' (apick v90 (.bool true) v92) H29 ⟨fun v93 H30 =>
 e' [(0, fr 0), (3, fr 3), (5, fr 5), (6, fr 6), (8, fr 8), (9, fr 9), (10, fr 10), (93, v93)] H30⟩⟩⟩⟩⟩⟩⟩⟩⟩⟩⟩⟩⟩⟩⟩⟩⟩⟩⟩⟩⟩⟩⟩⟩⟩⟩⟩⟩⟩⟩)
@[simp] def r16 (fr : AFr) (H : AHeap) : ARes :=
 areg (e' [(2, (.bool false))] H)
@[simp] def r17 (fr : AFr) (H : AHeap) : ARes :=
 areg (q' (fa' 0 (fr 9)) H ⟨fun v94 H =>
 q' (aindexAddrR (.arr 8 1) v94 (.int .i64 0)) H ⟨fun v95 H =>
 q' (ld' v95 H) H ⟨fun v96 H =>
 q' (bn' .add v96 (W32 3#32)) H ⟨fun v97 H =>
 q' (fa' 0 (fr 9)) H ⟨fun v98 H =>
 q' (aindexAddrR (.arr 8 1) v98 (.int .i64 0)) H ⟨fun v99 H =>
 w' (astoreR (some 1) v99 v97 H) ⟨fun _ H =>
 e' [(0, fr 0), (3, fr 3), (5, fr 5), (6, fr 6), (8, fr 8), (9, fr 9), (10, fr 10)] H⟩⟩⟩⟩⟩⟩⟩)
@[simp] def r18 (fr : AFr) (H : AHeap) : ARes :=
 areg (q' (Ld' 13 (fr 9) H) H ⟨fun v100 H1 =>
 q' (fa' 4 (fr 10)) H1 ⟨fun v101 H2 =>
 q' (ld' v101 H2) H2 ⟨fun v102 H3 =>
 w' (astoreR (some 13) (fr 6) v100 H3) ⟨fun _ H4 =>
 q' (some v102) H4 ⟨fun v7 H5 =>
 withChk [aloadR (some none) v101 H3 = aloadR (some none) v101 H4] (e' [(0, fr 0), (3, fr 3), (5, fr 5), (6, fr 6), (7, v7), (8, fr 8)] H5)⟩⟩⟩⟩⟩)
@[simp] def r13 (fr : AFr) (H : AHeap) : ARes :=
 areg (q' (bn' .add (fr 8) (.int .i64 1)) H ⟨fun v55 H =>
 e' [(0, fr 0), (3, fr 3), (5, fr 5), (6, fr 6), (7, fr 7), (8, v55)] H⟩)
@[simp] def r19 (s2 : SpecM) (s3 : SpecP) (fr : AFr) (H : AHeap) : ARes :=
 areg (o' (callM [false] s2 [[none]] [(fr 5)] H) ⟨fun v104 H =>
 q' (bn' .eql v104 (fr 7)) H ⟨fun v106 H =>
 o' (g' (gw v106 true) ⟨callP false s3 [] [] H⟩ H) ⟨fun v108 H =>
 q' (apick v106 v108 (.bool false)) H ⟨fun v109 H =>
 e' [(2, v109)] H⟩⟩⟩⟩)
def l0 (s0 s1 s2 : SpecM) (s3 : SpecP) (fr : AFr) (H : AHeap) : ARes :=
  s' (s' (r3 fr H) ⟨fun fr H =>
 c' (fr 21)
 ⟨some (.normal, fr, H)⟩
 ⟨some (.exit 0, fr, H)⟩⟩) ⟨fun fr H =>
 s' (aexit 1 (r5 fr H)) ⟨fun fr H =>
 r4 fr H⟩⟩
def l1 (s0 s1 s2 : SpecM) (s3 : SpecP) (fr : AFr) (H : AHeap) : ARes :=
  s' (s' (r12 fr H) ⟨fun fr H =>
 c' (fr 53)
 ⟨some (.normal, fr, H)⟩
 ⟨some (.exit 2, fr, H)⟩⟩) ⟨fun fr H =>
 s' (aexit 3 (s' (r14 s1 fr H) ⟨fun fr H =>
 s' (s' (r15 fr H) ⟨fun fr H =>
 c' (fr 93)
 ⟨s' (r16 fr H) ⟨fun fr H =>
 some (.ret, fr, H)⟩⟩
 ⟨some (.normal, fr, H)⟩⟩) ⟨fun fr H =>
 s' (r17 fr H) ⟨fun fr H =>
 r18 fr H⟩⟩⟩)) ⟨fun fr H =>
 r13 fr H⟩⟩
@[simp] def body (s0 s1 s2 : SpecM) (s3 : SpecP) (fr : AFr) (H : AHeap) : ARes :=
  s' (r0 fr H) ⟨fun fr H =>
 s' (r1 fr H) ⟨fun fr H =>
 s' (s' (r2 fr H) ⟨fun fr H =>
  aexit 0 (aloop (l0 s0 s1 s2 s3) fr H)⟩) ⟨fun fr H =>
 s' (r6 s0 fr H) ⟨fun fr H =>
 s' (s' (r7 fr H) ⟨fun fr H =>
 c' (fr 47)
 ⟨s' (r8 fr H) ⟨fun fr H =>
 some (.ret, fr, H)⟩⟩
 ⟨some (.normal, fr, H)⟩⟩) ⟨fun fr H =>
 s' (r9 fr H) ⟨fun fr H =>
 s' (r10 fr H) ⟨fun fr H =>
 s' (s' (r11 fr H) ⟨fun fr H =>
  aexit 2 (aloop (l1 s0 s1 s2 s3) fr H)⟩) ⟨fun fr H =>
 s' (r19 s2 s3 fr H) ⟨fun fr H =>
 some (.ret, fr, H)⟩⟩⟩⟩⟩⟩⟩⟩⟩
@[simp] def res (fr : AFr) (H : AHeap) : Option (List AV) := res2 (some (fr 2)) (some [])
end law07_LeakBus
def law07_LeakBus (a0 : AV) : Option AV := closeUpR (some [[none]]) (afinR law07_LeakBus.res (law07_LeakBus.body mem_New.spec leak_Step.spec mem_Mem_Bus.spec law07_lives.spec (args0 [a0]) AHeap.empty))
def law07_LeakBus.spec : List AV → Option AV
  | [a0] => law07_LeakBus a0
  | _ => none
namespace law07_both
def C (s0 s1 s2 : SpecM) : Tab := (((Tab.none.add 15 (.ref [true, false, true] s0)).add 16 (.ref [true, false, true] s1)).add 25 (.ref [false, false, false] s2))
@[simp] def r0 (fr : AFr) (H : AHeap) : ARes :=
 areg (o' (abox T.ty_4_uint32 (fr 1) H) ⟨fun v3 H =>
 e' [(0, fr 0), (3, v3)] H⟩)
@[simp] def r1 (s0 s1 : SpecM) (fr : AFr) (H : AHeap) : ARes :=
 areg (o' (abuildSliceR (some ⟨T.ty_uint16, 1, 2, [(W16 0#16)]⟩) 0 [] H) ⟨fun v9 H =>
 o' (aappendR (some ⟨T.ty_uint16, 1, 2, [(W16 0#16)]⟩) v9 (fr 0) H) ⟨fun v11 H =>
 o' (abuildSliceR (some ⟨T.ty_uint32, 1, 4, [(W32 0#32)]⟩) 2 [(0, (W32 7#32)), (1, (W32 8#32))] H) ⟨fun v12 H =>
 o' (callM [true, false, true] s0 [[some 1], [none], [some 1]] [v11, (.int .i64 4), v12] H) ⟨fun v13 H =>
 o' (abuildSliceR (some ⟨T.ty_uint32, 1, 4, [(W32 0#32)]⟩) 2 [(0, (W32 7#32)), (1, (W32 8#32))] H) ⟨fun v15 H =>
 o' (callM [true, false, true] s1 [[some 1], [none], [some 1]] [(fr 0), (.int .i64 4), v15] H) ⟨fun v16 H =>
 e' [(3, fr 3), (6, v13), (7, v16)] H⟩⟩⟩⟩⟩⟩)
@[simp] def r2 (fr : AFr) (H : AHeap) : ARes :=
 areg (q' (abinR .p .eql (fr 6) .nilp) H ⟨fun v18 H =>
 e' [(3, fr 3), (6, fr 6), (7, fr 7), (18, v18)] H⟩)
@[simp] def r3 (fr : AFr) (H : AHeap) : ARes :=
 areg (e' [(4, .nilp), (5, (fr 7))] H)
@[simp] def r4 (fr : AFr) (H : AHeap) : ARes :=
 areg (e' [(3, fr 3), (6, fr 6), (7, fr 7), (8, (.int .i64 0))] H)
@[simp] def r5 (fr : AFr) (H : AHeap) : ARes :=
 areg (q' (bn' .lss (fr 8) (.int .i64 4)) H ⟨fun v21 H =>
 e' [(3, fr 3), (6, fr 6), (7, fr 7), (8, fr 8), (21, v21)] H⟩)
@[simp] def r7 (s2 : SpecM) (fr : AFr) (H : AHeap) : ARes :=
 areg (q' (aindexAddrR (.arr 4 1) (fr 3) (fr 8)) H ⟨fun v27 H =>
 q' (ld' v27 H) H ⟨fun v28 H =>
 o' (callM [false, false, false] s2 [[none], [none], [none]] [(fr 6), (fr 8), v28] H) ⟨fun v29 H =>
 e' [(3, fr 3), (6, fr 6), (7, fr 7), (8, fr 8)] H⟩⟩⟩)
@[simp] def r8 (fr : AFr) (H : AHeap) : ARes :=
 areg (q' (some (fr 7)) H ⟨fun v30 H1 =>
 q' (anil v30) H1 ⟨fun v31 H2 =>
 q' (fa' 1 v31) H2 ⟨fun v32 H3 =>
 q' (ld' v32 H3) H3 ⟨fun v33 H4 =>
 q' (some (fr 8)) H4 ⟨fun v34 H5 =>
 q' (some (fr 8)) H5 ⟨fun v35 H6 =>
 q' (aindexAddrR (.arr 4 1) (fr 3) v35) H6 ⟨fun v36 H7 =>
 q' (ld' v36 H7) H7 ⟨fun v37 H8 =>
 q' (aindexAddrR (.sl 1) v33 v34) H8 ⟨fun v38 H9 =>
 w' (astoreR (some 1) v38 v37 H9) ⟨fun _ H10 =>
 e' [(3, fr 3), (6, fr 6), (7, fr 7), (8, fr 8)] H10⟩⟩⟩⟩⟩⟩⟩⟩⟩⟩)
@[simp] def r6 (fr : AFr) (H : AHeap) : ARes :=
 areg (q' (bn' .add (fr 8) (.int .i64 1)) H ⟨fun v23 H =>
 e' [(3, fr 3), (6, fr 6), (7, fr 7), (8, v23)] H⟩)
@[simp] def r9 (fr : AFr) (H : AHeap) : ARes :=
 areg (e' [(4, (fr 6)), (5, (fr 7))] H)
def l0 (s0 s1 s2 : SpecM) (fr : AFr) (H : AHeap) : ARes :=
  s' (s' (r5 fr H) ⟨fun fr H =>
 c' (fr 21)
 ⟨some (.normal, fr, H)⟩
 ⟨some (.exit 0, fr, H)⟩⟩) ⟨fun fr H =>
 s' (aexit 1 (s' (r7 s2 fr H) ⟨fun fr H =>
 r8 fr H⟩)) ⟨fun fr H =>
 r6 fr H⟩⟩
@[simp] def body (s0 s1 s2 : SpecM) (fr : AFr) (H : AHeap) : ARes :=
  s' (r0 fr H) ⟨fun fr H =>
 s' (r1 s0 s1 fr H) ⟨fun fr H =>
 s' (s' (r2 fr H) ⟨fun fr H =>
 c' (fr 18)
 ⟨s' (r3 fr H) ⟨fun fr H =>
 some (.ret, fr, H)⟩⟩
 ⟨some (.normal, fr, H)⟩⟩) ⟨fun fr H =>
 s' (s' (r4 fr H) ⟨fun fr H =>
  aexit 0 (aloop (l0 s0 s1 s2) fr H)⟩) ⟨fun fr H =>
 s' (r9 fr H) ⟨fun fr H =>
 some (.ret, fr, H)⟩⟩⟩⟩⟩
@[simp] def res (fr : AFr) (H : AHeap) : Option (List AV) := res2 (some (fr 4)) (res2 (some (fr 5)) (some []))
end law07_both
def law07_both (a0 a1 : AV) (H : AHeap) : Option (AV × AHeap) := raw (afinR law07_both.res (law07_both.body mem_New.spec ref05_New.spec mem_Mem_Set.spec (args0 [a0, a1]) H))
def law07_both.spec : List AV → AHeap → Option (AV × AHeap)
  | [a0, a1], H => law07_both a0 a1 H
  | _, _ => none
namespace law07_LeakSteps
def C (s0 s1 : SpecP) (s2 s3 s4 s5 s6 : SpecM) : Tab := (((((((Tab.none.add 22 (.pure false s0)).add 29 (.pure false s1)).add 33 (.ref [true, true] s2)).add 34 (.ref [false, false] s3)).add 35 (.ref [false, false] s4)).add 28 (.ref [true, false] s5)).add 36 (.ref [true, false] s6))
@[simp] def r0 (fr : AFr) (H : AHeap) : ARes :=
 areg (o' (abox T.ty_api_Ins (fr 0) H) ⟨fun v3 H =>
 o' (abox T.ty_api_State (fr 1) H) ⟨fun v4 H =>
 o' (abox T.ty_4_uint32 (fr 2) H) ⟨fun v5 H =>
 e' [(3, v3), (4, v4), (5, v5)] H⟩⟩⟩)
@[simp] def r1 (s0 : SpecP) (fr : AFr) (H : AHeap) : ARes :=
 areg (q' (Ld' 5 (fr 3) H) H ⟨fun v20 H =>
 o' (callP false s0 [[none, none, none, none, none]] [v20] H) ⟨fun v21 H =>
 q' (aextract v21 0) H ⟨fun v22 H =>
 q' (aextract v21 1) H ⟨fun v23 H =>
 e' [(4, fr 4), (5, fr 5), (7, v22), (8, v23)] H⟩⟩⟩⟩)
@[simp] def r2 (fr : AFr) (H : AHeap) : ARes :=
 areg (q' (bn' .neq (fr 8) (.int .i64 0)) H ⟨fun v25 H =>
 e' [(4, fr 4), (5, fr 5), (7, fr 7), (25, v25)] H⟩)
@[simp] def r3 (s1 : SpecP) (fr : AFr) (H : AHeap) : ARes :=
 areg (o' (callP false s1 [] [] H) ⟨fun v26 H =>
 e' [(6, v26)] H⟩)
@[simp] def r4 (fr : AFr) (H : AHeap) : ARes :=
 areg (q' (fa' 8 (fr 4)) H ⟨fun v27 H =>
 w' (astoreR (some 1) v27 (W32 4#32) H) ⟨fun _ H =>
 e' [(4, fr 4), (5, fr 5), (7, fr 7)] H⟩⟩)
@[simp] def r5 (s2 : SpecM) (fr : AFr) (H : AHeap) : ARes :=
 areg (o' (abuildSliceR (some ⟨T.ty_uint16, 1, 2, [(W16 0#16)]⟩) 5 [(0, (W16 1#16)), (1, (W16 2#16)), (2, (fr 7)), (3, (W16 3#16)), (4, (W16 4#16))] H) ⟨fun v30 H =>
 q' (Ld' 4 (fr 5) H) H ⟨fun v31 H =>
 o' (callM [true, true] s2 [[some 1], [none, none, none, none]] [v30, v31] H) ⟨fun v32 H =>
 q' (aextract v32 0) H ⟨fun v33 H =>
 q' (aextract v32 1) H ⟨fun v34 H =>
 e' [(4, fr 4), (9, v33), (10, v34)] H⟩⟩⟩⟩⟩)
@[simp] def r6 (fr : AFr) (H : AHeap) : ARes :=
 areg (q' (abinR .p .eql (fr 9) .nilp) H ⟨fun v36 H =>
 e' [(4, fr 4), (9, fr 9), (10, fr 10), (36, v36)] H⟩)
@[simp] def r7 (fr : AFr) (H : AHeap) : ARes :=
 areg (e' [(6, (.bool false))] H)
@[simp] def r8 (s3 : SpecM) (fr : AFr) (H : AHeap) : ARes :=
 areg (o' (callM [false, false] s3 [[none], [none]] [(fr 9), (W32 0#32)] H) ⟨fun v38 H =>
 e' [(4, fr 4), (9, fr 9), (10, fr 10)] H⟩)
@[simp] def r9 (s4 : SpecM) (fr : AFr) (H : AHeap) : ARes :=
 areg (o' (callM [false, false] s4 [[none], [none]] [(fr 10), (W32 0#32)] H) ⟨fun v40 H =>
 e' [(4, fr 4), (9, fr 9), (10, fr 10)] H⟩)
@[simp] def r10 (s5 : SpecM) (fr : AFr) (H : AHeap) : ARes :=
 areg (q' (Ld' 13 (fr 4) H) H ⟨fun v42 H =>
 o' (callM [true, false] s5 [[none, none, none, none, none, none, none, none, none, none, none, none, none], [none]] [v42, (fr 9)] H) ⟨fun v44 H =>
 q' (aextract v44 0) H ⟨fun v45 H =>
 q' (aextract v44 1) H ⟨fun v46 H =>
 q' (aextract v44 2) H ⟨fun v47 H =>
 q' (aextract v44 3) H ⟨fun v48 H =>
 o' (aallocR T.ty_api_State (some (.agg [(W32 0#32), (W32 0#32), (W32 0#32), (W32 0#32), (W32 0#32), (W32 0#32), (W32 0#32), (W32 0#32), (W32 0#32), (.bool false), (.bool false), (.bool false), (.bool false)])) H) ⟨fun v11 H =>
 o' (aallocR T.ty_api_Leak (some (.agg [(W32 0#32), (W16 0#16), (W32 0#32), (W32 0#32), (W32 0#32), (W32 0#32), (W32 0#32), (W32 0#32), (.bool false), (.bool false)])) H) ⟨fun v12 H =>
 w' (astoreR (some 13) v11 v45 H) ⟨fun _ H =>
 w' (astoreR (some 10) v12 v46 H) ⟨fun _ H =>
 e' [(4, fr 4), (10, fr 10), (11, v11), (12, v12), (13, v47), (14, v48)] H⟩⟩⟩⟩⟩⟩⟩⟩⟩⟩)
@[simp] def r11 (s6 : SpecM) (fr : AFr) (H : AHeap) : ARes :=
 areg (q' (Ld' 13 (fr 4) H) H ⟨fun v50 H =>
 o' (callM [true, false] s6 [[none, none, none, none, none, none, none, none, none, none, none, none, none], [none]] [v50, (fr 10)] H) ⟨fun v52 H =>
 q' (aextract v52 0) H ⟨fun v53 H =>
 q' (aextract v52 1) H ⟨fun v54 H =>
 q' (aextract v52 2) H ⟨fun v55 H =>
 q' (aextract v52 3) H ⟨fun v56 H =>
 o' (aallocR T.ty_api_State (some (.agg [(W32 0#32), (W32 0#32), (W32 0#32), (W32 0#32), (W32 0#32), (W32 0#32), (W32 0#32), (W32 0#32), (W32 0#32), (.bool false), (.bool false), (.bool false), (.bool false)])) H) ⟨fun v15 H =>
 o' (aallocR T.ty_api_Leak (some (.agg [(W32 0#32), (W16 0#16), (W32 0#32), (W32 0#32), (W32 0#32), (W32 0#32), (W32 0#32), (W32 0#32), (.bool false), (.bool false)])) H) ⟨fun v16 H =>
 w' (astoreR (some 13) v15 v53 H) ⟨fun _ H =>
 w' (astoreR (some 10) v16 v54 H) ⟨fun _ H =>
 e' [(11, fr 11), (12, fr 12), (13, fr 13), (14, fr 14), (15, v15), (16, v16), (17, v55), (18, v56)] H⟩⟩⟩⟩⟩⟩⟩⟩⟩⟩)
@[simp] def r12 (s1 : SpecP) (fr : AFr) (H : AHeap) : ARes :=
 areg (q' (Ld' 13 (fr 11) H) H ⟨fun v57 H =>
 q' (Ld' 13 (fr 15) H) H ⟨fun v58 H =>
 q' (abinR (.c [.i, .i, .i, .i, .i, .i, .i, .i, .i, .b, .b, .b, .b]) .eql v57 v58) H ⟨fun v59 H =>
 G' v59 true ⟨Ld' 10 (fr 12) H⟩ H ⟨fun v61 H =>
 G' v59 true ⟨Ld' 10 (fr 16) H⟩ H ⟨fun v62 H =>
 G' v59 true ⟨abinR (.c [.i, .i, .i, .i, .i, .i, .i, .i, .b, .b]) .eql v61 v62⟩ H ⟨fun v63 H =>
 q' (apick v59 v63 (.bool false)) H ⟨fun v64 H =>
 G' v64 true ⟨some (fr 13)⟩ H ⟨fun v66 H =>
 G' v64 true ⟨some (fr 17)⟩ H ⟨fun v67 H =>
 G' v64 true ⟨abinR .b .eql v66 v67⟩ H ⟨fun v68 H =>
 q' (apick v64 v68 (.bool false)) H ⟨fun v69 H =>
 G' v69 true ⟨some (fr 14)⟩ H ⟨fun v71 H =>
 G' v69 true ⟨some (fr 18)⟩ H ⟨fun v72 H =>
 G' v69 true ⟨bn' .eql v71 v72⟩ H ⟨fun v73 H =>
 q' (apick v69 v73 (.bool false)) H ⟨fun v74 H =>
 o' (g' (gw v74 true) ⟨callP false s1 [] [] H⟩ H) ⟨fun v76 H =>
 q' (apick v74 v76 (.bool false)) H ⟨fun v77 H =>
 e' [(6, v77)] H⟩⟩⟩⟩⟩⟩⟩⟩⟩⟩⟩⟩⟩⟩⟩⟩⟩)
@[simp] def body (s0 s1 : SpecP) (s2 s3 s4 s5 s6 : SpecM) (fr : AFr) (H : AHeap) : ARes :=
  s' (r0 fr H) ⟨fun fr H =>
 s' (r1 s0 fr H) ⟨fun fr H =>
 s' (s' (r2 fr H) ⟨fun fr H =>
 c' (fr 25)
 ⟨s' (r3 s1 fr H) ⟨fun fr H =>
 some (.ret, fr, H)⟩⟩
 ⟨some (.normal, fr, H)⟩⟩) ⟨fun fr H =>
 s' (r4 fr H) ⟨fun fr H =>
 s' (r5 s2 fr H) ⟨fun fr H =>
 s' (s' (r6 fr H) ⟨fun fr H =>
 c' (fr 36)
 ⟨s' (r7 fr H) ⟨fun fr H =>
 some (.ret, fr, H)⟩⟩
 ⟨some (.normal, fr, H)⟩⟩) ⟨fun fr H =>
 s' (r8 s3 fr H) ⟨fun fr H =>
 s' (r9 s4 fr H) ⟨fun fr H =>
 s' (r10 s5 fr H) ⟨fun fr H =>
 s' (r11 s6 fr H) ⟨fun fr H =>
 s' (r12 s1 fr H) ⟨fun fr H =>
 some (.ret, fr, H)⟩⟩⟩⟩⟩⟩⟩⟩⟩⟩⟩
@[simp] def res (fr : AFr) (H : AHeap) : Option (List AV) := res2 (some (fr 6)) (some [])
end law07_LeakSteps
def law07_LeakSteps (a0 a1 a2 : AV) : Option AV := closeUpR (some [[none]]) (afinR law07_LeakSteps.res (law07_LeakSteps.body ref02_Put.spec law07_lives.spec law07_both.spec mem_Mem_Load.spec ref05_Mem_Load.spec leak_Step.spec ref07_Step.spec (args0 [a0, a1, a2]) AHeap.empty))
def law07_LeakSteps.spec : List AV → Option AV
  | [a0, a1, a2] => law07_LeakSteps a0 a1 a2
  | _ => none
end
end Go.Abs
