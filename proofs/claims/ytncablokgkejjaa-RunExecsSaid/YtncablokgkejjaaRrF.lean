/-
  The functions, as they are over abstract values. Printed by gen.py.
-/
import Derived.Test.YtncablokgkejjaaLoF
import Derived.Test.YtncablokgkejjaaLrF
set_option linter.unusedVariables false
namespace Go.Abs
noncomputable section
namespace ref08_Same
def C (s0 : SpecP) : Tab := (Tab.none.add 19 (.pure false s0))
@[simp] def r0 (fr : AFr) (H : AHeap) : ARes :=
 areg (o' (abox T.ty_api_Outcome (fr 0) H) ⟨fun v2 H =>
 o' (abox T.ty_api_Outcome (fr 1) H) ⟨fun v3 H =>
 e' [(2, v2), (3, v3)] H⟩⟩)
@[simp] def r1 (s0 : SpecP) (fr : AFr) (H : AHeap) : ARes :=
 areg (q' (fa' 0 (fr 2)) H ⟨fun v6 H =>
 q' (ld' v6 H) H ⟨fun v7 H =>
 q' (fa' 0 (fr 3)) H ⟨fun v8 H =>
 q' (ld' v8 H) H ⟨fun v9 H =>
 q' (bn' .neq v7 v9) H ⟨fun v10 H =>
 G' v10 false ⟨fa' 1 (fr 2)⟩ H ⟨fun v12 H =>
 G' v10 false ⟨ld' v12 H⟩ H ⟨fun v13 H =>
 G' v10 false ⟨fa' 1 (fr 3)⟩ H ⟨fun v14 H =>
 G' v10 false ⟨ld' v14 H⟩ H ⟨fun v15 H =>
 G' v10 false ⟨bn' .neq v13 v15⟩ H ⟨fun v16 H =>
 q' (apick v10 (.bool true) v16) H ⟨fun v17 H =>
 G' v17 false ⟨fa' 2 (fr 2)⟩ H ⟨fun v19 H =>
 G' v17 false ⟨ld' v19 H⟩ H ⟨fun v20 H =>
 G' v17 false ⟨fa' 2 (fr 3)⟩ H ⟨fun v21 H =>
 G' v17 false ⟨ld' v21 H⟩ H ⟨fun v22 H =>
 G' v17 false ⟨bn' .neq v20 v22⟩ H ⟨fun v23 H =>
 q' (apick v17 (.bool true) v23) H ⟨fun v24 H =>
 G' v24 false ⟨fa' 3 (fr 2)⟩ H ⟨fun v26 H =>
 G' v24 false ⟨ld' v26 H⟩ H ⟨fun v27 H =>
 G' v24 false ⟨fa' 3 (fr 3)⟩ H ⟨fun v28 H =>
 G' v24 false ⟨ld' v28 H⟩ H ⟨fun v29 H =>
 o' (g' (gw v24 false) ⟨callP false s0 [[some 1], [some 1]] [v27, v29] H⟩ H) ⟨fun v30 H =>
 G' v24 false ⟨aun .not v30⟩ H ⟨fun v31 H =>
 q' (apick v24 (.bool true) v31) H ⟨fun v32 H =>
 G' v32 false ⟨fa' 4 (fr 2)⟩ H ⟨fun v34 H =>
 G' v32 false ⟨ld' v34 H⟩ H ⟨fun v35 H =>
 G' v32 false ⟨alenR .sl v35⟩ H ⟨fun v36 H =>
 G' v32 false ⟨fa' 4 (fr 3)⟩ H ⟨fun v37 H =>
 G' v32 false ⟨ld' v37 H⟩ H ⟨fun v38 H =>
 G' v32 false ⟨alenR .sl v38⟩ H ⟨fun v39 H =>
 G' v32 false ⟨bn' .neq v36 v39⟩ H ⟨fun v40 H =>
 q' (apick v32 (.bool true) v40) H ⟨fun v41 H =>
 e' [(2, fr 2), (3, fr 3), (41, v41)] H⟩⟩⟩⟩⟩⟩⟩⟩⟩⟩⟩⟩⟩⟩⟩⟩⟩⟩⟩⟩⟩⟩⟩⟩⟩⟩⟩⟩⟩⟩⟩⟩)
@[simp] def r2 (fr : AFr) (H : AHeap) : ARes :=
 areg (e' [(4, (.bool false))] H)
@[simp] def r3 (fr : AFr) (H : AHeap) : ARes :=
 areg (e' [(2, fr 2), (3, fr 3), (5, (.int .i64 0))] H)
@[simp] def r4 (fr : AFr) (H : AHeap) : ARes :=
 areg (q' (fa' 4 (fr 2)) H ⟨fun v43 H =>
 q' (ld' v43 H) H ⟨fun v44 H =>
 q' (alenR .sl v44) H ⟨fun v45 H =>
 q' (bn' .lss (fr 5) v45) H ⟨fun v46 H =>
 e' [(2, fr 2), (3, fr 3), (5, fr 5), (46, v46)] H⟩⟩⟩⟩)
@[simp] def r6 (fr : AFr) (H : AHeap) : ARes :=
 areg (q' (fa' 4 (fr 2)) H ⟨fun v49 H1 =>
 q' (ld' v49 H1) H1 ⟨fun v50 H2 =>
 q' (some (fr 5)) H2 ⟨fun v51 H3 =>
 q' (aindexAddrR (.sl 10) v50 v51) H3 ⟨fun v52 H4 =>
 q' (Ld' 10 v52 H4) H4 ⟨fun v53 H5 =>
 q' (fa' 4 (fr 3)) H5 ⟨fun v54 H6 =>
 q' (ld' v54 H6) H6 ⟨fun v55 H7 =>
 q' (some (fr 5)) H7 ⟨fun v56 H8 =>
 q' (aindexAddrR (.sl 10) v55 v56) H8 ⟨fun v57 H9 =>
 q' (Ld' 10 v57 H9) H9 ⟨fun v58 H10 =>
 q' (abinR (.c [.i, .i, .i, .i, .i, .i, .i, .i, .b, .b]) .neq v53 v58) H10 ⟨fun v59 H11 =>
 e' [(2, fr 2), (3, fr 3), (5, fr 5), (59, v59)] H11⟩⟩⟩⟩⟩⟩⟩⟩⟩⟩⟩)
@[simp] def r7 (fr : AFr) (H : AHeap) : ARes :=
 areg (e' [(4, (.bool false))] H)
@[simp] def r5 (fr : AFr) (H : AHeap) : ARes :=
 areg (q' (bn' .add (fr 5) (.int .i64 1)) H ⟨fun v48 H =>
 e' [(2, fr 2), (3, fr 3), (5, v48)] H⟩)
@[simp] def r8 (fr : AFr) (H : AHeap) : ARes :=
 areg (e' [(4, (.bool true))] H)
def l0 (s0 : SpecP) (fr : AFr) (H : AHeap) : ARes :=
  s' (s' (r4 fr H) ⟨fun fr H =>
 c' (fr 46)
 ⟨some (.normal, fr, H)⟩
 ⟨some (.exit 0, fr, H)⟩⟩) ⟨fun fr H =>
 s' (aexit 1 (s' (r6 fr H) ⟨fun fr H =>
 c' (fr 59)
 ⟨s' (r7 fr H) ⟨fun fr H =>
 some (.ret, fr, H)⟩⟩
 ⟨some (.normal, fr, H)⟩⟩)) ⟨fun fr H =>
 r5 fr H⟩⟩
@[simp] def body (s0 : SpecP) (fr : AFr) (H : AHeap) : ARes :=
  s' (r0 fr H) ⟨fun fr H =>
 s' (s' (r1 s0 fr H) ⟨fun fr H =>
 c' (fr 41)
 ⟨s' (r2 fr H) ⟨fun fr H =>
 some (.ret, fr, H)⟩⟩
 ⟨some (.normal, fr, H)⟩⟩) ⟨fun fr H =>
 s' (s' (r3 fr H) ⟨fun fr H =>
  aexit 0 (aloop (l0 s0) fr H)⟩) ⟨fun fr H =>
 s' (r8 fr H) ⟨fun fr H =>
 some (.ret, fr, H)⟩⟩⟩⟩
@[simp] def res (fr : AFr) (H : AHeap) : Option (List AV) := res2 (some (fr 4)) (some [])
end ref08_Same
def ref08_Same (a0 a1 : AV) : Option AV := closeUpR (some [[none]]) (afinR ref08_Same.res (ref08_Same.body ref05_Same.spec (args0 [a0, a1]) AHeap.empty))
def ref08_Same.spec : List AV → Option AV
  | [a0, a1] => ref08_Same a0 a1
  | _ => none
namespace ref08_Exec
def C (s0 s1 : SpecM) : Tab := ((Tab.none.add 16 (.ref [true, false, true] s0)).add 36 (.ref [true, false] s1))
@[simp] def r0 (fr : AFr) (H : AHeap) : ARes :=
 areg (o' (aallocR T.ty_api_Outcome (some (.agg [(.int .i64 0), (.int .i64 0), (.int .i64 0), .nils, .nils])) H) ⟨fun v8 H =>
 e' [(0, fr 0), (1, fr 1), (2, fr 2), (3, fr 3), (8, v8)] H⟩)
@[simp] def r1 (s0 : SpecM) (fr : AFr) (H : AHeap) : ARes :=
 areg (q' (alenR .sl (fr 1)) H ⟨fun v20 H =>
 o' (callM [true, false, true] s0 [[some 1], [none], [some 1]] [(fr 0), v20, (fr 2)] H) ⟨fun v22 H =>
 q' (abuildR (.str [(W32 0#32), (W32 0#32), (W32 0#32), (W32 0#32), (W32 0#32), (W32 0#32), (W32 0#32), (W32 0#32), (W32 0#32), (.bool false), (.bool false), (.bool false), (.bool false)] [(0, 8), (8, 1), (9, 1), (10, 1), (11, 1), (12, 1)]) []) H ⟨fun v23 H =>
 o' (aallocR T.ty_api_State (some (.agg [(W32 0#32), (W32 0#32), (W32 0#32), (W32 0#32), (W32 0#32), (W32 0#32), (W32 0#32), (W32 0#32), (W32 0#32), (.bool false), (.bool false), (.bool false), (.bool false)])) H) ⟨fun v10 H =>
 w' (astoreR (some 13) v10 v23 H) ⟨fun _ H =>
 e' [(1, fr 1), (3, fr 3), (8, fr 8), (9, v22), (10, v10)] H⟩⟩⟩⟩⟩)
@[simp] def r2 (fr : AFr) (H : AHeap) : ARes :=
 areg (e' [(1, fr 1), (3, fr 3), (8, fr 8), (9, fr 9), (10, fr 10), (11, (.int .i64 0))] H)
@[simp] def r3 (fr : AFr) (H : AHeap) : ARes :=
 areg (q' (anil (fr 9)) H ⟨fun v26 H =>
 q' (fa' 1 v26) H ⟨fun v27 H =>
 q' (ld' v27 H) H ⟨fun v28 H =>
 q' (alenR .sl v28) H ⟨fun v29 H =>
 q' (bn' .lss (fr 11) v29) H ⟨fun v30 H =>
 e' [(1, fr 1), (3, fr 3), (8, fr 8), (9, fr 9), (10, fr 10), (11, fr 11), (30, v30)] H⟩⟩⟩⟩⟩)
@[simp] def r5 (fr : AFr) (H : AHeap) : ARes :=
 areg (q' (some (fr 9)) H ⟨fun v33 H1 =>
 q' (anil v33) H1 ⟨fun v34 H2 =>
 q' (fa' 1 v34) H2 ⟨fun v35 H3 =>
 q' (ld' v35 H3) H3 ⟨fun v36 H4 =>
 q' (some (fr 11)) H4 ⟨fun v37 H5 =>
 q' (some (fr 1)) H5 ⟨fun v38 H6 =>
 q' (some (fr 11)) H6 ⟨fun v39 H7 =>
 q' (aindexAddrR (.sl 1) v38 v39) H7 ⟨fun v40 H8 =>
 q' (ld' v40 H8) H8 ⟨fun v41 H9 =>
 q' (aindexAddrR (.sl 1) v36 v37) H9 ⟨fun v42 H10 =>
 w' (astoreR (some 1) v42 v41 H10) ⟨fun _ H11 =>
 e' [(1, fr 1), (3, fr 3), (8, fr 8), (9, fr 9), (10, fr 10), (11, fr 11)] H11⟩⟩⟩⟩⟩⟩⟩⟩⟩⟩⟩)
@[simp] def r4 (fr : AFr) (H : AHeap) : ARes :=
 areg (q' (bn' .add (fr 11) (.int .i64 1)) H ⟨fun v32 H =>
 e' [(1, fr 1), (3, fr 3), (8, fr 8), (9, fr 9), (10, fr 10), (11, v32)] H⟩)
@[simp] def r6 (fr : AFr) (H : AHeap) : ARes :=
 areg (q' (bn' .gtr (fr 3) (.int .i64 1048576)) H ⟨fun v44 H =>
 e' [(3, fr 3), (8, fr 8), (9, fr 9), (10, fr 10), (44, v44)] H⟩)
@[simp] def r7 (fr : AFr) (H : AHeap) : ARes :=
 areg (e' [(3, (.int .i64 1048576)), (8, fr 8), (9, fr 9), (10, fr 10)] H)
@[simp] def r8 (fr : AFr) (H : AHeap) : ARes :=
 areg (q' (abuildR (.str [(.int .i64 0), (.int .i64 0), (.int .i64 0), .nils, .nils] [(0, 1), (1, 1), (2, 1), (3, 1), (4, 1)]) [(2, (.int .i64 80))]) H ⟨fun v45 H =>
 o' (aallocR T.ty_api_Outcome (some (.agg [(.int .i64 0), (.int .i64 0), (.int .i64 0), .nils, .nils])) H) ⟨fun v12 H =>
 w' (astoreR (some 5) v12 v45 H) ⟨fun _ H =>
 e' [(3, fr 3), (8, fr 8), (9, fr 9), (10, fr 10), (12, v12)] H⟩⟩⟩)
@[simp] def r9 (fr : AFr) (H : AHeap) : ARes :=
 areg (e' [(3, fr 3), (8, fr 8), (9, fr 9), (10, fr 10), (12, fr 12), (13, (.bool true))] H)
@[simp] def r10 (fr : AFr) (H : AHeap) : ARes :=
 areg (G' (fr 13) true ⟨fa' 0 (fr 12)⟩ H ⟨fun v48 H =>
 G' (fr 13) true ⟨ld' v48 H⟩ H ⟨fun v49 H =>
 G' (fr 13) true ⟨some (fr 3)⟩ H ⟨fun v50 H =>
 G' (fr 13) true ⟨bn' .lss v49 v50⟩ H ⟨fun v51 H =>
 q' (apick (fr 13) v51 (.bool false)) H ⟨fun v52 H =>
 e' [(3, fr 3), (8, fr 8), (9, fr 9), (10, fr 10), (12, fr 12), (13, fr 13), (52, v52)] H⟩⟩⟩⟩⟩)
@[simp] def r11 (s1 : SpecM) (fr : AFr) (H : AHeap) : ARes :=
 areg (q' (Ld' 13 (fr 10) H) H ⟨fun v54 H =>
 o' (callM [true, false] s1 [[none, none, none, none, none, none, none, none, none, none, none, none, none], [none]] [v54, (fr 9)] H) ⟨fun v56 H =>
 q' (aextract v56 0) H ⟨fun v57 H =>
 q' (aextract v56 1) H ⟨fun v58 H =>
 q' (aextract v56 2) H ⟨fun v59 H =>
 q' (aextract v56 3) H ⟨fun v60 H =>
 o' (aallocR T.ty_api_State (some (.agg [(W32 0#32), (W32 0#32), (W32 0#32), (W32 0#32), (W32 0#32), (W32 0#32), (W32 0#32), (W32 0#32), (W32 0#32), (.bool false), (.bool false), (.bool false), (.bool false)])) H) ⟨fun v14 H =>
 o' (aallocR T.ty_api_Leak (some (.agg [(W32 0#32), (W16 0#16), (W32 0#32), (W32 0#32), (W32 0#32), (W32 0#32), (W32 0#32), (W32 0#32), (.bool false), (.bool false)])) H) ⟨fun v15 H =>
 w' (astoreR (some 13) v14 v57 H) ⟨fun _ H =>
 w' (astoreR (some 10) v15 v58 H) ⟨fun _ H =>
 e' [(3, fr 3), (8, fr 8), (9, fr 9), (10, fr 10), (12, fr 12), (13, fr 13), (14, v14), (15, v15), (16, v59), (17, v60)] H⟩⟩⟩⟩⟩⟩⟩⟩⟩⟩)
@[simp] def r12 (fr : AFr) (H : AHeap) : ARes :=
 areg (q' (bn' .neq (fr 17) (.int .i64 0)) H ⟨fun v62 H =>
 e' [(3, fr 3), (8, fr 8), (9, fr 9), (10, fr 10), (12, fr 12), (13, fr 13), (14, fr 14), (15, fr 15), (16, fr 16), (17, fr 17), (62, v62)] H⟩)
@[simp] def r13 (fr : AFr) (H : AHeap) : ARes :=
 areg (q' (fa' 2 (fr 12)) H ⟨fun v64 H =>
 w' (astoreR (some 1) v64 (fr 17) H) ⟨fun _ H =>
 e' [(3, fr 3), (8, fr 8), (9, fr 9), (10, fr 10), (12, fr 12), (13, (.bool false))] H⟩⟩)
@[simp] def r14 (fr : AFr) (H : AHeap) : ARes :=
 areg (q' (Ld' 13 (fr 14) H) H ⟨fun v65 H1 =>
 q' (fa' 0 (fr 12)) H1 ⟨fun v66 H2 =>
 q' (ld' v66 H2) H2 ⟨fun v67 H3 =>
 q' (bn' .add v67 (.int .i64 1)) H3 ⟨fun v68 H4 =>
 q' (fa' 4 (fr 12)) H4 ⟨fun v69 H5 =>
 q' (ld' v69 H5) H5 ⟨fun v70 H6 =>
 q' (Ld' 10 (fr 15) H6) H6 ⟨fun v71 H7 =>
 o' (abuildSliceR (some ⟨T.ty_api_Leak, 10, 36, [(W32 0#32), (W16 0#16), (W32 0#32), (W32 0#32), (W32 0#32), (W32 0#32), (W32 0#32), (W32 0#32), (.bool false), (.bool false)]⟩) 1 [(0, v71)] H7) ⟨fun v72 H8 =>
 o' (aappendR (some ⟨T.ty_api_Leak, 10, 36, [(W32 0#32), (W16 0#16), (W32 0#32), (W32 0#32), (W32 0#32), (W32 0#32), (W32 0#32), (W32 0#32), (.bool false), (.bool false)]⟩) v70 v72 H8) ⟨fun v73 H9 =>
 w' (astoreR (some 13) (fr 10) v65 H9) ⟨fun _ H10 =>
 q' (fa' 0 (fr 12)) H10 ⟨fun v74 H11 =>
 w' (astoreR (some 1) v74 v68 H11) ⟨fun _ H12 =>
 q' (fa' 4 (fr 12)) H12 ⟨fun v75 H13 =>
 w' (astoreR (some 1) v75 v73 H13) ⟨fun _ H14 =>
 withChk [aloadR (some (some 13)) (fr 14) H8 = aloadR (some (some 13)) (fr 14) H9, aloadR (some none) v66 H8 = aloadR (some none) v66 H9, aloadR (some none) v66 H9 = aloadR (some none) v66 H10] (e' [(3, fr 3), (8, fr 8), (9, fr 9), (10, fr 10), (12, fr 12), (13, fr 13), (16, fr 16)] H14)⟩⟩⟩⟩⟩⟩⟩⟩⟩⟩⟩⟩⟩⟩)
@[simp] def r15 (fr : AFr) (H : AHeap) : ARes :=
 areg (e' [(3, fr 3), (8, fr 8), (9, fr 9), (10, fr 10), (12, fr 12), (13, fr 13), (76, (fr 16))] H)
@[simp] def r16 (fr : AFr) (H : AHeap) : ARes :=
 areg (q' (fa' 2 (fr 12)) H ⟨fun v77 H =>
 w' (astoreR (some 1) v77 (.int .i64 0) H) ⟨fun _ H =>
 e' [(3, fr 3), (8, fr 8), (9, fr 9), (10, fr 10), (12, fr 12), (13, (.bool false))] H⟩⟩)
@[simp] def r17 (fr : AFr) (H : AHeap) : ARes :=
 areg (q' (some (fr 9)) H ⟨fun v78 H1 =>
 q' (anil v78) H1 ⟨fun v79 H2 =>
 q' (fa' 3 v79) H2 ⟨fun v80 H3 =>
 q' (ld' v80 H3) H3 ⟨fun v81 H4 =>
 o' (abuildSliceR (some ⟨T.ty_uint32, 1, 4, [(W32 0#32)]⟩) 0 [] H4) ⟨fun v82 H5 =>
 q' (some (fr 9)) H5 ⟨fun v83 H6 =>
 q' (anil v83) H6 ⟨fun v84 H7 =>
 q' (fa' 1 v84) H7 ⟨fun v85 H8 =>
 q' (ld' v85 H8) H8 ⟨fun v86 H9 =>
 o' (aappendR (some ⟨T.ty_uint32, 1, 4, [(W32 0#32)]⟩) v82 v86 H9) ⟨fun v87 H10 =>
 q' (fa' 1 (fr 12)) H10 ⟨fun v88 H11 =>
 w' (astoreR (some 1) v88 v81 H11) ⟨fun _ H12 =>
 q' (fa' 3 (fr 12)) H12 ⟨fun v89 H13 =>
 w' (astoreR (some 1) v89 v87 H13) ⟨fun _ H14 =>
 withChk [aloadR (some none) v80 H9 = aloadR (some none) v80 H10] (e' [(8, fr 8), (12, fr 12)] H14)⟩⟩⟩⟩⟩⟩⟩⟩⟩⟩⟩⟩⟩⟩)
@[simp] def r18 (fr : AFr) (H : AHeap) : ARes :=
 areg (q' (Ld' 5 (fr 12) H) H ⟨fun v90 H =>
 w' (astoreR (some 5) (fr 8) v90 H) ⟨fun _ H =>
 e' [(8, fr 8)] H⟩⟩)
def l0 (s0 s1 : SpecM) (fr : AFr) (H : AHeap) : ARes :=
  s' (s' (r3 fr H) ⟨fun fr H =>
 c' (fr 30)
 ⟨some (.normal, fr, H)⟩
 ⟨some (.exit 0, fr, H)⟩⟩) ⟨fun fr H =>
 s' (aexit 1 (r5 fr H)) ⟨fun fr H =>
 r4 fr H⟩⟩
def l1 (s0 s1 : SpecM) (fr : AFr) (H : AHeap) : ARes :=
  s' (s' (r10 fr H) ⟨fun fr H =>
 c' (fr 52)
 ⟨some (.normal, fr, H)⟩
 ⟨some (.exit 2, fr, H)⟩⟩) ⟨fun fr H =>
  aexit 3 (s' (r11 s1 fr H) ⟨fun fr H =>
 s' (s' (r12 fr H) ⟨fun fr H =>
 c' (fr 62)
 ⟨s' (r13 fr H) ⟨fun fr H =>
 some (.exit 3, fr, H)⟩⟩
 ⟨some (.normal, fr, H)⟩⟩) ⟨fun fr H =>
 s' (r14 fr H) ⟨fun fr H =>
 s' (r15 fr H) ⟨fun fr H =>
 c' (fr 76)
 ⟨r16 fr H⟩
 ⟨some (.normal, fr, H)⟩⟩⟩⟩⟩)⟩
@[simp] def body (s0 s1 : SpecM) (fr : AFr) (H : AHeap) : ARes :=
  s' (r0 fr H) ⟨fun fr H =>
 s' (r1 s0 fr H) ⟨fun fr H =>
 s' (s' (r2 fr H) ⟨fun fr H =>
  aexit 0 (aloop (l0 s0 s1) fr H)⟩) ⟨fun fr H =>
 s' (s' (r6 fr H) ⟨fun fr H =>
 c' (fr 44)
 ⟨r7 fr H⟩
 ⟨some (.normal, fr, H)⟩⟩) ⟨fun fr H =>
 s' (r8 fr H) ⟨fun fr H =>
 s' (s' (r9 fr H) ⟨fun fr H =>
  aexit 2 (aloop (l1 s0 s1) fr H)⟩) ⟨fun fr H =>
 s' (r17 fr H) ⟨fun fr H =>
 s' (r18 fr H) ⟨fun fr H =>
 some (.ret, fr, H)⟩⟩⟩⟩⟩⟩⟩⟩
@[simp] def res (fr : AFr) (H : AHeap) : Option (List AV) := res2 (aloadR (some (some 5)) (fr 8) H) (some [])
end ref08_Exec
def ref08_Exec (a0 a1 a2 a3 : AV) : Option AV := closeUpR (some [[none, none, none, some 1, some 10]]) (afinR ref08_Exec.res (ref08_Exec.body ref05_New.spec ref07_Step.spec (args0 [a0, a1, a2, a3]) AHeap.empty))
def ref08_Exec.spec : List AV → Option AV
  | [a0, a1, a2, a3] => ref08_Exec a0 a1 a2 a3
  | _ => none
end
end Go.Abs
