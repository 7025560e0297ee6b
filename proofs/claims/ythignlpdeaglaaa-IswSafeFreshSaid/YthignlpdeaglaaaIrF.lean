/-
  The functions, as they are over abstract values. Printed by gen.py.
-/
import Derived.Test.YthignlpdeaglaaaLoF
set_option linter.unusedVariables false
namespace Go.Abs
noncomputable section
namespace ref18_Join
@[simp] def r0 (fr : AFr) (H : AHeap) : ARes :=
 areg (e' [(0, fr 0)] H)
@[simp] def r1 (fr : AFr) (H : AHeap) : ARes :=
 areg (e' [(0, fr 0), (3, (W32 0#32))] H)
@[simp] def r2 (fr : AFr) (H : AHeap) : ARes :=
 areg (e' [(0, fr 0), (3, fr 3), (4, (.int .i64 0))] H)
@[simp] def r3 (fr : AFr) (H : AHeap) : ARes :=
 areg (q' (alenR .sl (fr 0)) H ⟨fun v7 H =>
 q' (bn' .lss (fr 4) v7) H ⟨fun v8 H =>
 e' [(0, fr 0), (3, fr 3), (4, fr 4), (8, v8)] H⟩⟩)
@[simp] def r5 (fr : AFr) (H : AHeap) : ARes :=
 areg (q' (aindexAddrR (.sl 1) (fr 0) (fr 4)) H ⟨fun v14 H =>
 q' (ld' v14 H) H ⟨fun v15 H =>
 q' (bn' .xor (fr 3) v15) H ⟨fun v16 H =>
 e' [(0, fr 0), (3, v16), (4, fr 4)] H⟩⟩⟩)
@[simp] def r4 (fr : AFr) (H : AHeap) : ARes :=
 areg (q' (bn' .add (fr 4) (.int .i64 1)) H ⟨fun v10 H =>
 e' [(0, fr 0), (3, fr 3), (4, v10)] H⟩)
@[simp] def r6 (fr : AFr) (H : AHeap) : ARes :=
 areg (e' [(2, (fr 3))] H)
def l0 (fr : AFr) (H : AHeap) : ARes :=
  s' (s' (r3 fr H) ⟨fun fr H =>
 c' (fr 8)
 ⟨some (.normal, fr, H)⟩
 ⟨some (.exit 0, fr, H)⟩⟩) ⟨fun fr H =>
 s' (aexit 1 (r5 fr H)) ⟨fun fr H =>
 r4 fr H⟩⟩
@[simp] def body (fr : AFr) (H : AHeap) : ARes :=
  s' (r0 fr H) ⟨fun fr H =>
 s' (r1 fr H) ⟨fun fr H =>
 s' (s' (r2 fr H) ⟨fun fr H =>
  aexit 0 (aloop (l0) fr H)⟩) ⟨fun fr H =>
 s' (r6 fr H) ⟨fun fr H =>
 some (.ret, fr, H)⟩⟩⟩⟩
@[simp] def res (fr : AFr) (H : AHeap) : Option (List AV) := res2 (some (fr 2)) (some [])
end ref18_Join
def ref18_Join (a0 : AV) : Option AV := closeUpR (some [[none]]) (afinR ref18_Join.res (ref18_Join.body (args0 [a0]) AHeap.empty))
def ref18_Join.spec : List AV → Option AV
  | [a0] => ref18_Join a0
  | _ => none
namespace ref18_At
@[simp] def r0 (fr : AFr) (H : AHeap) : ARes :=
 areg (e' [(0, fr 0), (1, fr 1)] H)
@[simp] def r1 (fr : AFr) (H : AHeap) : ARes :=
 areg (q' (alenR .sl (fr 0)) H ⟨fun v7 H =>
 q' (bn' .lss (fr 1) v7) H ⟨fun v8 H =>
 e' [(0, fr 0), (1, fr 1), (8, v8)] H⟩⟩)
@[simp] def r2 (fr : AFr) (H : AHeap) : ARes :=
 areg (q' (aindexAddrR (.sl 1) (fr 0) (fr 1)) H ⟨fun v11 H =>
 q' (ld' v11 H) H ⟨fun v12 H =>
 e' [(4, v12)] H⟩⟩)
@[simp] def r3 (fr : AFr) (H : AHeap) : ARes :=
 areg (e' [(4, (W32 0#32))] H)
@[simp] def body (fr : AFr) (H : AHeap) : ARes :=
  s' (r0 fr H) ⟨fun fr H =>
 s' (s' (r1 fr H) ⟨fun fr H =>
 c' (fr 8)
 ⟨s' (r2 fr H) ⟨fun fr H =>
 some (.ret, fr, H)⟩⟩
 ⟨some (.normal, fr, H)⟩⟩) ⟨fun fr H =>
 s' (r3 fr H) ⟨fun fr H =>
 some (.ret, fr, H)⟩⟩⟩
@[simp] def res (fr : AFr) (H : AHeap) : Option (List AV) := res2 (some (fr 4)) (some [])
end ref18_At
def ref18_At (a0 a1 : AV) : Option AV := closeUpR (some [[none]]) (afinR ref18_At.res (ref18_At.body (args0 [a0, a1]) AHeap.empty))
def ref18_At.spec : List AV → Option AV
  | [a0, a1] => ref18_At a0 a1
  | _ => none
namespace ref19_Randoms
def C : Tab := Tab.none
@[simp] def r0 (fr : AFr) (H : AHeap) : ARes :=
 areg (o' (abox T.ty_api_Code (fr 0) H) ⟨fun v1 H =>
 e' [(1, v1)] H⟩)
@[simp] def r1 (fr : AFr) (H : AHeap) : ARes :=
 areg (e' [(1, fr 1), (3, (.int .i64 0))] H)
@[simp] def r2 (fr : AFr) (H : AHeap) : ARes :=
 areg (e' [(1, fr 1), (3, fr 3), (4, (.int .i64 0))] H)
@[simp] def r3 (fr : AFr) (H : AHeap) : ARes :=
 areg (q' (fa' 1 (fr 1)) H ⟨fun v6 H =>
 q' (ld' v6 H) H ⟨fun v7 H =>
 q' (alenR .sl v7) H ⟨fun v8 H =>
 q' (bn' .lss (fr 4) v8) H ⟨fun v9 H =>
 e' [(1, fr 1), (3, fr 3), (4, fr 4), (9, v9)] H⟩⟩⟩⟩)
@[simp] def r5 (fr : AFr) (H : AHeap) : ARes :=
 areg (q' (fa' 1 (fr 1)) H ⟨fun v12 H =>
 q' (ld' v12 H) H ⟨fun v13 H =>
 q' (aindexAddrR (.sl 4) v13 (fr 4)) H ⟨fun v15 H =>
 q' (fa' 0 v15) H ⟨fun v16 H =>
 q' (ld' v16 H) H ⟨fun v17 H =>
 q' (bn' .eql v17 (.int .i64 0)) H ⟨fun v18 H =>
 e' [(1, fr 1), (3, fr 3), (4, fr 4), (18, v18)] H⟩⟩⟩⟩⟩⟩)
@[simp] def r6 (fr : AFr) (H : AHeap) : ARes :=
 areg (q' (bn' .add (fr 3) (.int .i64 1)) H ⟨fun v20 H =>
 e' [(1, fr 1), (3, v20), (4, fr 4)] H⟩)
@[simp] def r4 (fr : AFr) (H : AHeap) : ARes :=
 areg (q' (bn' .add (fr 4) (.int .i64 1)) H ⟨fun v11 H =>
 e' [(1, fr 1), (3, fr 3), (4, v11)] H⟩)
@[simp] def r7 (fr : AFr) (H : AHeap) : ARes :=
 areg (e' [(2, (fr 3))] H)
def l0 (fr : AFr) (H : AHeap) : ARes :=
  s' (s' (r3 fr H) ⟨fun fr H =>
 c' (fr 9)
 ⟨some (.normal, fr, H)⟩
 ⟨some (.exit 0, fr, H)⟩⟩) ⟨fun fr H =>
 s' (aexit 1 (s' (r5 fr H) ⟨fun fr H =>
 c' (fr 18)
 ⟨r6 fr H⟩
 ⟨some (.normal, fr, H)⟩⟩)) ⟨fun fr H =>
 r4 fr H⟩⟩
@[simp] def body (fr : AFr) (H : AHeap) : ARes :=
  s' (r0 fr H) ⟨fun fr H =>
 s' (r1 fr H) ⟨fun fr H =>
 s' (s' (r2 fr H) ⟨fun fr H =>
  aexit 0 (aloop (l0) fr H)⟩) ⟨fun fr H =>
 s' (r7 fr H) ⟨fun fr H =>
 some (.ret, fr, H)⟩⟩⟩⟩
@[simp] def res (fr : AFr) (H : AHeap) : Option (List AV) := res2 (some (fr 2)) (some [])
end ref19_Randoms
def ref19_Randoms (a0 : AV) : Option AV := closeUpR (some [[none]]) (afinR ref19_Randoms.res (ref19_Randoms.body (args0 [a0]) AHeap.empty))
def ref19_Randoms.spec : List AV → Option AV
  | [a0] => ref19_Randoms a0
  | _ => none
namespace ref19_Takes
def C : Tab := Tab.none
@[simp] def r0 (fr : AFr) (H : AHeap) : ARes :=
 areg (e' [(0, fr 0)] H)
@[simp] def r1 (fr : AFr) (H : AHeap) : ARes :=
 areg (q' (bn' .eql (fr 0) (.int .i64 1)) H ⟨fun v4 H =>
 G' v4 false ⟨some (fr 0)⟩ H ⟨fun v6 H =>
 G' v4 false ⟨bn' .eql v6 (.int .i64 2)⟩ H ⟨fun v7 H =>
 q' (apick v4 (.bool true) v7) H ⟨fun v8 H =>
 e' [(0, fr 0), (8, v8)] H⟩⟩⟩⟩)
@[simp] def r2 (fr : AFr) (H : AHeap) : ARes :=
 areg (e' [(2, (.int .i64 2))] H)
@[simp] def r3 (fr : AFr) (H : AHeap) : ARes :=
 areg (q' (bn' .geq (fr 0) (.int .i64 3)) H ⟨fun v10 H =>
 G' v10 true ⟨some (fr 0)⟩ H ⟨fun v12 H =>
 G' v10 true ⟨bn' .leq v12 (.int .i64 6)⟩ H ⟨fun v13 H =>
 q' (apick v10 v13 (.bool false)) H ⟨fun v14 H =>
 G' v14 false ⟨some (fr 0)⟩ H ⟨fun v16 H =>
 G' v14 false ⟨bn' .eql v16 (.int .i64 8)⟩ H ⟨fun v17 H =>
 q' (apick v14 (.bool true) v17) H ⟨fun v18 H =>
 e' [(18, v18)] H⟩⟩⟩⟩⟩⟩⟩)
@[simp] def r4 (fr : AFr) (H : AHeap) : ARes :=
 areg (e' [(2, (.int .i64 1))] H)
@[simp] def r5 (fr : AFr) (H : AHeap) : ARes :=
 areg (e' [(2, (.int .i64 0))] H)
@[simp] def body (fr : AFr) (H : AHeap) : ARes :=
  s' (r0 fr H) ⟨fun fr H =>
 s' (s' (r1 fr H) ⟨fun fr H =>
 c' (fr 8)
 ⟨s' (r2 fr H) ⟨fun fr H =>
 some (.ret, fr, H)⟩⟩
 ⟨some (.normal, fr, H)⟩⟩) ⟨fun fr H =>
 s' (s' (r3 fr H) ⟨fun fr H =>
 c' (fr 18)
 ⟨s' (r4 fr H) ⟨fun fr H =>
 some (.ret, fr, H)⟩⟩
 ⟨some (.normal, fr, H)⟩⟩) ⟨fun fr H =>
 s' (r5 fr H) ⟨fun fr H =>
 some (.ret, fr, H)⟩⟩⟩⟩
@[simp] def res (fr : AFr) (H : AHeap) : Option (List AV) := res2 (some (fr 2)) (some [])
end ref19_Takes
def ref19_Takes (a0 : AV) : Option AV := closeUpR (some [[none]]) (afinR ref19_Takes.res (ref19_Takes.body (args0 [a0]) AHeap.empty))
def ref19_Takes.spec : List AV → Option AV
  | [a0] => ref19_Takes a0
  | _ => none
namespace ref19_Can
def C (s0 : SpecP) : Tab := (Tab.none.add 54 (.pure false s0))
@[simp] def r0 (fr : AFr) (H : AHeap) : ARes :=
 areg (o' (abox T.ty_api_Code (fr 0) H) ⟨fun v1 H =>
 e' [(1, v1)] H⟩)
@[simp] def r1 (fr : AFr) (H : AHeap) : ARes :=
 areg (q' (fa' 0 (fr 1)) H ⟨fun v8 H =>
 q' (ld' v8 H) H ⟨fun v9 H =>
 q' (bn' .lss v9 (.int .i64 0)) H ⟨fun v10 H =>
 G' v10 false ⟨fa' 0 (fr 1)⟩ H ⟨fun v12 H =>
 G' v10 false ⟨ld' v12 H⟩ H ⟨fun v13 H =>
 G' v10 false ⟨bn' .gtr v13 (.int .i64 4000)⟩ H ⟨fun v14 H =>
 q' (apick v10 (.bool true) v14) H ⟨fun v15 H =>
 G' v15 false ⟨fa' 1 (fr 1)⟩ H ⟨fun v17 H =>
 G' v15 false ⟨ld' v17 H⟩ H ⟨fun v18 H =>
 G' v15 false ⟨alenR .sl v18⟩ H ⟨fun v19 H =>
 G' v15 false ⟨bn' .gtr v19 (.int .i64 60000)⟩ H ⟨fun v20 H =>
 q' (apick v15 (.bool true) v20) H ⟨fun v21 H =>
 e' [(1, fr 1), (21, v21)] H⟩⟩⟩⟩⟩⟩⟩⟩⟩⟩⟩⟩)
@[simp] def r2 (fr : AFr) (H : AHeap) : ARes :=
 areg (e' [(2, (.bool false))] H)
@[simp] def r3 (fr : AFr) (H : AHeap) : ARes :=
 areg (e' [(1, fr 1), (3, (.int .i64 0))] H)
@[simp] def r4 (fr : AFr) (H : AHeap) : ARes :=
 areg (q' (fa' 1 (fr 1)) H ⟨fun v23 H =>
 q' (ld' v23 H) H ⟨fun v24 H =>
 q' (alenR .sl v24) H ⟨fun v25 H =>
 q' (bn' .lss (fr 3) v25) H ⟨fun v26 H =>
 e' [(1, fr 1), (3, fr 3), (26, v26)] H⟩⟩⟩⟩)
@[simp] def r6 (fr : AFr) (H : AHeap) : ARes :=
 areg (q' (fa' 1 (fr 1)) H ⟨fun v29 H =>
 q' (ld' v29 H) H ⟨fun v30 H =>
 q' (aindexAddrR (.sl 4) v30 (fr 3)) H ⟨fun v32 H =>
 q' (Ld' 4 v32 H) H ⟨fun v33 H =>
 o' (aallocR T.ty_api_Op (some (.agg [(.int .i64 0), (.int .i64 0), (.int .i64 0), (W32 0#32)])) H) ⟨fun v4 H =>
 w' (astoreR (some 4) v4 v33 H) ⟨fun _ H =>
 e' [(1, fr 1), (3, fr 3), (4, v4)] H⟩⟩⟩⟩⟩⟩)
@[simp] def r7 (s0 : SpecP) (fr : AFr) (H : AHeap) : ARes :=
 areg (q' (fa' 0 (fr 4)) H ⟨fun v34 H1 =>
 q' (ld' v34 H1) H1 ⟨fun v35 H2 =>
 o' (callP false s0 [[none]] [v35] H2) ⟨fun v36 H3 =>
 q' (fa' 0 (fr 1)) H3 ⟨fun v37 H4 =>
 q' (ld' v37 H4) H4 ⟨fun v38 H5 =>
 q' (some (fr 3)) H5 ⟨fun v39 H6 =>
 q' (bn' .add v38 v39) H6 ⟨fun v40 H7 =>
 q' (some v36) H7 ⟨fun v5 H8 =>
 q' (some v40) H8 ⟨fun v6 H9 =>
 withChk [aloadR (some none) v37 H2 = aloadR (some none) v37 H3] (e' [(1, fr 1), (3, fr 3), (4, fr 4), (5, v5), (6, v6)] H9)⟩⟩⟩⟩⟩⟩⟩⟩⟩)
@[simp] def r8 (fr : AFr) (H : AHeap) : ARes :=
 areg (q' (fa' 0 (fr 4)) H ⟨fun v41 H =>
 q' (ld' v41 H) H ⟨fun v42 H =>
 q' (bn' .lss v42 (.int .i64 0)) H ⟨fun v43 H =>
 G' v43 false ⟨fa' 0 (fr 4)⟩ H ⟨fun v45 H =>
 G' v43 false ⟨ld' v45 H⟩ H ⟨fun v46 H =>
 G' v43 false ⟨bn' .gtr v46 (.int .i64 8)⟩ H ⟨fun v47 H =>
 q' (apick v43 (.bool true) v47) H ⟨fun v48 H =>
 G' v48 false ⟨some (fr 5)⟩ H ⟨fun v50 H =>
 G' v48 false ⟨bn' .lss v50 (.int .i64 1)⟩ H ⟨fun v51 H =>
 G' v48 false ⟨some v51⟩ H ⟨fun v52 H =>
 G' v52 true ⟨fa' 1 (fr 4)⟩ H ⟨fun v53 H =>
 G' v52 true ⟨ld' v53 H⟩ H ⟨fun v54 H =>
 G' v52 true ⟨bn' .neq v54 (.int .i64 0)⟩ H ⟨fun v55 H =>
 G' v48 false ⟨apick v52 v55 (.bool false)⟩ H ⟨fun v56 H =>
 q' (apick v48 (.bool true) v56) H ⟨fun v57 H =>
 G' v57 false ⟨some (fr 5)⟩ H ⟨fun v59 H =>
 G' v57 false ⟨bn' .lss v59 (.int .i64 2)⟩ H ⟨fun v60 H =>
 G' v57 false ⟨some v60⟩ H ⟨fun v61 H =>
 G' v61 true ⟨fa' 2 (fr 4)⟩ H ⟨fun v62 H =>
 G' v61 true ⟨ld' v62 H⟩ H ⟨fun v63 H =>
 G' v61 true ⟨bn' .neq v63 (.int .i64 0)⟩ H ⟨fun v64 H =>
 G' v57 false ⟨apick v61 v64 (.bool false)⟩ H ⟨fun v65 H =>
 q' (apick v57 (.bool true) v65) H ⟨fun v66 H =>
 G' v66 false ⟨some (fr 5)⟩ H ⟨fun v68 H =>
 G' v66 false ⟨bn' .gtr v68 (.int .i64 0)⟩ H ⟨fun v69 H =>
 G' v66 false ⟨some v69⟩ H ⟨fun v70 H =>
 G' v70 true ⟨fa' 1 (fr 4)⟩ H ⟨fun v71 H =>
 G' v70 true ⟨ld' v71 H⟩ H ⟨fun v72 H =>
 G' v70 true ⟨bn' .lss v72 (.int .i64 0)⟩ H ⟨fun v73 H =>
 G' v70 true ⟨some v73⟩ H ⟨fun v74 H =>
 G' v74 false ⟨fa' 1 (fr 4)⟩ H ⟨fun v75 H =>
 G' v74 false ⟨ld' v75 H⟩ H ⟨fun v76 H =>
 G' v74 false ⟨some (fr 6)⟩ H ⟨fun v77 H =>
 G' v74 false ⟨bn' .geq v76 v77⟩ H ⟨fun v78 H =>
 G' v70 true ⟨apick v74 (.bool true) v78⟩ H ⟨fun v79 H =>
 G' v66 false ⟨apick v70 v79 (.bool false)⟩ H ⟨fun v80 H =>
 q' (apick v66 (.bool true) v80) H ⟨fun v81 H =>
 G' v81 false ⟨some (fr 5)⟩ H ⟨fun v83 H =>
 G' v81 false ⟨bn' .gtr v83 (.int .i64 1)⟩ H ⟨fun v84 H =>
 G' v81 false ⟨some v84⟩ H ⟨fun v85 H =>
 G' v85 true ⟨fa' 2 (fr 4)⟩ H ⟨fun v86 H =>
 G' v85 true ⟨ld' v86 H⟩ H ⟨fun v87 H =>
 G' v85 true ⟨bn' .lss v87 (.int .i64 0)⟩ H ⟨fun v88 H =>
 G' v85 true ⟨some v88⟩ H ⟨fun v89 H =>
 G' v89 false ⟨fa' 2 (fr 4)⟩ H ⟨fun v90 H =>
 G' v89 false ⟨ld' v90 H⟩ H ⟨fun v91 H =>
 G' v89 false ⟨some (fr 6)⟩ H ⟨fun v92 H =>
 G' v89 false ⟨bn' .geq v91 v92⟩ H ⟨fun v93 H =>
 G' v85 true ⟨apick v89 (.bool true) v93⟩ H ⟨fun v94 H =>
 G' v81 false ⟨apick v85 v94 (.bool false)⟩ H ⟨fun v95 H =>
 q' (apick v81 (.bool true) v95) H ⟨fun v96 H =>
 e' [(1, fr 1), (3, fr 3), (4, fr 4), (96, v96)] H⟩⟩⟩⟩⟩⟩⟩⟩⟩⟩⟩⟩⟩⟩⟩⟩⟩⟩⟩⟩⟩⟩⟩⟩⟩⟩⟩⟩⟩⟩⟩⟩⟩⟩⟩⟩⟩⟩⟩⟩⟩⟩⟩⟩⟩⟩⟩⟩⟩⟩⟩)
@[simp] def r9 (fr : AFr) (H : AHeap) : ARes :=
 areg (e' [(2, (.bool false))] H)
@[simp] def r10 (fr : AFr) (H : AHeap) : ARes :=
 areg (q' (fa' 0 (fr 4)) H ⟨fun v97 H =>
 q' (ld' v97 H) H ⟨fun v98 H =>
 q' (bn' .geq v98 (.int .i64 4)) H ⟨fun v99 H =>
 G' v99 true ⟨fa' 0 (fr 4)⟩ H ⟨fun v101 H =>
 G' v99 true ⟨ld' v101 H⟩ H ⟨fun v102 H =>
 G' v99 true ⟨bn' .leq v102 (.int .i64 6)⟩ H ⟨fun v103 H =>
 q' (apick v99 v103 (.bool false)) H ⟨fun v104 H =>
 G' v104 true ⟨fa' 3 (fr 4)⟩ H ⟨fun v106 H =>
 G' v104 true ⟨ld' v106 H⟩ H ⟨fun v107 H =>
 G' v104 true ⟨bn' .gtr v107 (W32 31#32)⟩ H ⟨fun v108 H =>
 q' (apick v104 v108 (.bool false)) H ⟨fun v109 H =>
 G' v109 false ⟨fa' 0 (fr 4)⟩ H ⟨fun v111 H =>
 G' v109 false ⟨ld' v111 H⟩ H ⟨fun v112 H =>
 G' v109 false ⟨bn' .lss v112 (.int .i64 4)⟩ H ⟨fun v113 H =>
 G' v109 false ⟨some v113⟩ H ⟨fun v114 H =>
 G' v114 false ⟨fa' 0 (fr 4)⟩ H ⟨fun v115 H =>
 G' v114 false ⟨ld' v115 H⟩ H ⟨fun v116 H =>
 G' v114 false ⟨bn' .eql v116 (.int .i64 8)⟩ H ⟨fun v117 H =>
 G' v109 false ⟨apick v114 (.bool true) v117⟩ H ⟨fun v118 H =>
 G' v109 false ⟨some v118⟩ H ⟨fun v119 H =>
 G' v119 true ⟨fa' 3 (fr 4)⟩ H ⟨fun v120 H =>
 G' v119 true ⟨ld' v120 H⟩ H ⟨fun v121 H =>
 G' v119 true ⟨bn' .neq v121 (W32 0#32)⟩ H ⟨fun v122 H =>
 G' v109 false ⟨apick v119 v122 (.bool false)⟩ H ⟨fun v123 H =>
 q' (apick v109 (.bool true) v123) H ⟨fun v124 H =>
 e' [(1, fr 1), (3, fr 3), (124, v124)] H⟩⟩⟩⟩⟩⟩⟩⟩⟩⟩⟩⟩⟩⟩⟩⟩⟩⟩⟩⟩⟩⟩⟩⟩⟩)
@[simp] def r11 (fr : AFr) (H : AHeap) : ARes :=
 areg (e' [(2, (.bool false))] H)
@[simp] def r5 (fr : AFr) (H : AHeap) : ARes :=
 areg (q' (bn' .add (fr 3) (.int .i64 1)) H ⟨fun v28 H =>
 e' [(1, fr 1), (3, v28)] H⟩)
@[simp] def r12 (fr : AFr) (H : AHeap) : ARes :=
 areg (e' [(1, fr 1), (7, (.int .i64 0))] H)
@[simp] def r13 (fr : AFr) (H : AHeap) : ARes :=
 areg (q' (fa' 2 (fr 1)) H ⟨fun v126 H =>
 q' (ld' v126 H) H ⟨fun v127 H =>
 q' (alenR .sl v127) H ⟨fun v128 H =>
 q' (bn' .lss (fr 7) v128) H ⟨fun v129 H =>
 e' [(1, fr 1), (7, fr 7), (129, v129)] H⟩⟩⟩⟩)
@[simp] def r15 (fr : AFr) (H : AHeap) : ARes :=
 areg (q' (fa' 2 (fr 1)) H ⟨fun v132 H1 =>
 q' (ld' v132 H1) H1 ⟨fun v133 H2 =>
 q' (some (fr 7)) H2 ⟨fun v134 H3 =>
 q' (aindexAddrR (.sl 1) v133 v134) H3 ⟨fun v135 H4 =>
 q' (ld' v135 H4) H4 ⟨fun v136 H5 =>
 q' (bn' .lss v136 (.int .i64 0)) H5 ⟨fun v137 H6 =>
 q' (some v137) H6 ⟨fun v138 H7 =>
 G' v138 false ⟨fa' 2 (fr 1)⟩ H7 ⟨fun v139 H8 =>
 G' v138 false ⟨ld' v139 H8⟩ H8 ⟨fun v140 H9 =>
 G' v138 false ⟨some (fr 7)⟩ H9 ⟨fun v141 H10 =>
 G' v138 false ⟨aindexAddrR (.sl 1) v140 v141⟩ H10 ⟨fun v142 H11 =>
 G' v138 false ⟨ld' v142 H11⟩ H11 ⟨fun v143 H12 =>
 G' v138 false ⟨fa' 0 (fr 1)⟩ H12 ⟨fun v144 H13 =>
 G' v138 false ⟨ld' v144 H13⟩ H13 ⟨fun v145 H14 =>
 G' v138 false ⟨fa' 1 (fr 1)⟩ H14 ⟨fun v146 H15 =>
 G' v138 false ⟨ld' v146 H15⟩ H15 ⟨fun v147 H16 =>
 G' v138 false ⟨alenR .sl v147⟩ H16 ⟨fun v148 H17 =>
 G' v138 false ⟨bn' .add v145 v148⟩ H17 ⟨fun v149 H18 =>
 G' v138 false ⟨bn' .geq v143 v149⟩ H18 ⟨fun v150 H19 =>
 q' (apick v138 (.bool true) v150) H19 ⟨fun v151 H20 =>
 e' [(1, fr 1), (7, fr 7), (151, v151)] H20⟩⟩⟩⟩⟩⟩⟩⟩⟩⟩⟩⟩⟩⟩⟩⟩⟩⟩⟩⟩)
@[simp] def r16 (fr : AFr) (H : AHeap) : ARes :=
 areg (e' [(2, (.bool false))] H)
@[simp] def r14 (fr : AFr) (H : AHeap) : ARes :=
 areg (q' (bn' .add (fr 7) (.int .i64 1)) H ⟨fun v131 H =>
 e' [(1, fr 1), (7, v131)] H⟩)
@[simp] def r17 (fr : AFr) (H : AHeap) : ARes :=
 areg (e' [(2, (.bool true))] H)
def l0 (s0 : SpecP) (fr : AFr) (H : AHeap) : ARes :=
  s' (s' (r4 fr H) ⟨fun fr H =>
 c' (fr 26)
 ⟨some (.normal, fr, H)⟩
 ⟨some (.exit 0, fr, H)⟩⟩) ⟨fun fr H =>
 s' (aexit 1 (s' (r6 fr H) ⟨fun fr H =>
 s' (r7 s0 fr H) ⟨fun fr H =>
 s' (s' (r8 fr H) ⟨fun fr H =>
 c' (fr 96)
 ⟨s' (r9 fr H) ⟨fun fr H =>
 some (.ret, fr, H)⟩⟩
 ⟨some (.normal, fr, H)⟩⟩) ⟨fun fr H =>
 s' (r10 fr H) ⟨fun fr H =>
 c' (fr 124)
 ⟨s' (r11 fr H) ⟨fun fr H =>
 some (.ret, fr, H)⟩⟩
 ⟨some (.normal, fr, H)⟩⟩⟩⟩⟩)) ⟨fun fr H =>
 r5 fr H⟩⟩
def l1 (s0 : SpecP) (fr : AFr) (H : AHeap) : ARes :=
  s' (s' (r13 fr H) ⟨fun fr H =>
 c' (fr 129)
 ⟨some (.normal, fr, H)⟩
 ⟨some (.exit 2, fr, H)⟩⟩) ⟨fun fr H =>
 s' (aexit 3 (s' (r15 fr H) ⟨fun fr H =>
 c' (fr 151)
 ⟨s' (r16 fr H) ⟨fun fr H =>
 some (.ret, fr, H)⟩⟩
 ⟨some (.normal, fr, H)⟩⟩)) ⟨fun fr H =>
 r14 fr H⟩⟩
@[simp] def body (s0 : SpecP) (fr : AFr) (H : AHeap) : ARes :=
  s' (r0 fr H) ⟨fun fr H =>
 s' (s' (r1 fr H) ⟨fun fr H =>
 c' (fr 21)
 ⟨s' (r2 fr H) ⟨fun fr H =>
 some (.ret, fr, H)⟩⟩
 ⟨some (.normal, fr, H)⟩⟩) ⟨fun fr H =>
 s' (s' (r3 fr H) ⟨fun fr H =>
  aexit 0 (aloop (l0 s0) fr H)⟩) ⟨fun fr H =>
 s' (s' (r12 fr H) ⟨fun fr H =>
  aexit 2 (aloop (l1 s0) fr H)⟩) ⟨fun fr H =>
 s' (r17 fr H) ⟨fun fr H =>
 some (.ret, fr, H)⟩⟩⟩⟩⟩
@[simp] def res (fr : AFr) (H : AHeap) : Option (List AV) := res2 (some (fr 2)) (some [])
end ref19_Can
def ref19_Can (a0 : AV) : Option AV := closeUpR (some [[none]]) (afinR ref19_Can.res (ref19_Can.body ref19_Takes.spec (args0 [a0]) AHeap.empty))
def ref19_Can.spec : List AV → Option AV
  | [a0] => ref19_Can a0
  | _ => none
namespace ref19_Exec
def C (s0 s1 s2 s3 s4 : SpecP) : Tab := (((((Tab.none.add 27 (.pure false s0)).add 22 (.pure false s1)).add 54 (.pure false s2)).add 60 (.pure false s3)).add 61 (.pure false s4))
@[simp] def r0 (fr : AFr) (H : AHeap) : ARes :=
 areg (o' (abox T.ty_api_Code (fr 0) H) ⟨fun v3 H =>
 e' [(1, fr 1), (2, fr 2), (3, v3)] H⟩)
@[simp] def r1 (fr : AFr) (H : AHeap) : ARes :=
 areg (o' (abuildSliceR (some ⟨T.ty_uint32, 1, 4, [(W32 0#32)]⟩) 0 [] H) ⟨fun v16 H =>
 e' [(1, fr 1), (2, fr 2), (3, fr 3), (8, v16), (9, (.int .i64 0))] H⟩)
@[simp] def r2 (s0 s1 : SpecP) (fr : AFr) (H : AHeap) : ARes :=
 areg (q' (Ld' 3 (fr 3) H) H ⟨fun v17 H =>
 o' (callP false s0 [[none, some 4, some 1]] [v17] H) ⟨fun v18 H =>
 q' (aun .not v18) H ⟨fun v19 H =>
 G' v19 false ⟨Ld' 3 (fr 3) H⟩ H ⟨fun v21 H =>
 o' (g' (gw v19 false) ⟨callP false s1 [[none, some 4, some 1]] [v21] H⟩ H) ⟨fun v22 H =>
 G' v19 false ⟨some (fr 2)⟩ H ⟨fun v23 H =>
 G' v19 false ⟨alenR .sl v23⟩ H ⟨fun v24 H =>
 G' v19 false ⟨bn' .gtr v22 v24⟩ H ⟨fun v25 H =>
 q' (apick v19 (.bool true) v25) H ⟨fun v26 H =>
 e' [(1, fr 1), (2, fr 2), (3, fr 3), (8, fr 8), (9, fr 9), (26, v26)] H⟩⟩⟩⟩⟩⟩⟩⟩⟩)
@[simp] def r3 (fr : AFr) (H : AHeap) : ARes :=
 areg (e' [(6, (fr 8)), (7, (.bool false))] H)
@[simp] def r4 (fr : AFr) (H : AHeap) : ARes :=
 areg (e' [(1, fr 1), (2, fr 2), (3, fr 3), (8, fr 8), (9, fr 9), (10, (.int .i64 0))] H)
@[simp] def r5 (fr : AFr) (H : AHeap) : ARes :=
 areg (q' (fa' 0 (fr 3)) H ⟨fun v29 H =>
 q' (ld' v29 H) H ⟨fun v30 H =>
 q' (bn' .lss (fr 10) v30) H ⟨fun v31 H =>
 e' [(1, fr 1), (2, fr 2), (3, fr 3), (8, fr 8), (9, fr 9), (10, fr 10), (31, v31)] H⟩⟩⟩)
@[simp] def r7 (fr : AFr) (H : AHeap) : ARes :=
 areg (q' (alenR .sl (fr 1)) H ⟨fun v36 H =>
 q' (bn' .lss (fr 10) v36) H ⟨fun v37 H =>
 e' [(1, fr 1), (2, fr 2), (3, fr 3), (8, fr 8), (9, fr 9), (10, fr 10), (37, v37)] H⟩⟩)
@[simp] def r8 (fr : AFr) (H : AHeap) : ARes :=
 areg (q' (aindexAddrR (.sl 1) (fr 1) (fr 10)) H ⟨fun v41 H =>
 q' (ld' v41 H) H ⟨fun v42 H =>
 o' (abuildSliceR (some ⟨T.ty_uint32, 1, 4, [(W32 0#32)]⟩) 1 [(0, v42)] H) ⟨fun v43 H =>
 o' (aappendR (some ⟨T.ty_uint32, 1, 4, [(W32 0#32)]⟩) (fr 8) v43 H) ⟨fun v44 H =>
 e' [(1, fr 1), (2, fr 2), (3, fr 3), (8, v44), (9, fr 9), (10, fr 10)] H⟩⟩⟩⟩)
@[simp] def r9 (fr : AFr) (H : AHeap) : ARes :=
 areg (o' (abuildSliceR (some ⟨T.ty_uint32, 1, 4, [(W32 0#32)]⟩) 1 [(0, (W32 0#32))] H) ⟨fun v46 H =>
 o' (aappendR (some ⟨T.ty_uint32, 1, 4, [(W32 0#32)]⟩) (fr 8) v46 H) ⟨fun v47 H =>
 e' [(1, fr 1), (2, fr 2), (3, fr 3), (8, v47), (9, fr 9), (10, fr 10)] H⟩⟩)
@[simp] def r6 (fr : AFr) (H : AHeap) : ARes :=
 areg (q' (bn' .add (fr 10) (.int .i64 1)) H ⟨fun v33 H =>
 e' [(1, fr 1), (2, fr 2), (3, fr 3), (8, fr 8), (9, fr 9), (10, v33)] H⟩)
@[simp] def r10 (fr : AFr) (H : AHeap) : ARes :=
 areg (e' [(2, fr 2), (3, fr 3), (8, fr 8), (9, fr 9), (11, (.int .i64 0))] H)
@[simp] def r11 (fr : AFr) (H : AHeap) : ARes :=
 areg (q' (fa' 1 (fr 3)) H ⟨fun v49 H =>
 q' (ld' v49 H) H ⟨fun v50 H =>
 q' (alenR .sl v50) H ⟨fun v51 H =>
 q' (bn' .lss (fr 11) v51) H ⟨fun v52 H =>
 e' [(2, fr 2), (3, fr 3), (8, fr 8), (9, fr 9), (11, fr 11), (52, v52)] H⟩⟩⟩⟩)
@[simp] def r13 (fr : AFr) (H : AHeap) : ARes :=
 areg (q' (fa' 1 (fr 3)) H ⟨fun v55 H =>
 q' (ld' v55 H) H ⟨fun v56 H =>
 q' (aindexAddrR (.sl 4) v56 (fr 11)) H ⟨fun v58 H =>
 q' (Ld' 4 v58 H) H ⟨fun v59 H =>
 o' (aallocR T.ty_api_Op (some (.agg [(.int .i64 0), (.int .i64 0), (.int .i64 0), (W32 0#32)])) H) ⟨fun v12 H =>
 w' (astoreR (some 4) v12 v59 H) ⟨fun _ H =>
 e' [(2, fr 2), (3, fr 3), (8, fr 8), (9, fr 9), (11, fr 11), (12, v12)] H⟩⟩⟩⟩⟩⟩)
@[simp] def r14 (fr : AFr) (H : AHeap) : ARes :=
 areg (e' [(2, fr 2), (3, fr 3), (8, fr 8), (9, fr 9), (11, fr 11), (12, fr 12), (14, (W32 0#32)), (15, (W32 0#32))] H)
@[simp] def r15 (s2 : SpecP) (fr : AFr) (H : AHeap) : ARes :=
 areg (q' (fa' 0 (fr 12)) H ⟨fun v60 H =>
 q' (ld' v60 H) H ⟨fun v61 H =>
 o' (callP false s2 [[none]] [v61] H) ⟨fun v62 H =>
 q' (bn' .gtr v62 (.int .i64 0)) H ⟨fun v63 H =>
 e' [(2, fr 2), (3, fr 3), (8, fr 8), (9, fr 9), (11, fr 11), (12, fr 12), (14, fr 14), (15, fr 15), (63, v63)] H⟩⟩⟩⟩)
@[simp] def r16 (fr : AFr) (H : AHeap) : ARes :=
 areg (q' (fa' 1 (fr 12)) H ⟨fun v65 H =>
 q' (ld' v65 H) H ⟨fun v66 H =>
 q' (aindexAddrR (.sl 1) (fr 8) v66) H ⟨fun v67 H =>
 q' (ld' v67 H) H ⟨fun v68 H =>
 e' [(2, fr 2), (3, fr 3), (8, fr 8), (9, fr 9), (11, fr 11), (12, fr 12), (14, v68), (15, fr 15)] H⟩⟩⟩⟩)
@[simp] def r17 (s2 : SpecP) (fr : AFr) (H : AHeap) : ARes :=
 areg (q' (fa' 0 (fr 12)) H ⟨fun v69 H =>
 q' (ld' v69 H) H ⟨fun v70 H =>
 o' (callP false s2 [[none]] [v70] H) ⟨fun v71 H =>
 q' (bn' .gtr v71 (.int .i64 1)) H ⟨fun v72 H =>
 e' [(2, fr 2), (3, fr 3), (8, fr 8), (9, fr 9), (11, fr 11), (12, fr 12), (14, fr 14), (15, fr 15), (72, v72)] H⟩⟩⟩⟩)
@[simp] def r18 (fr : AFr) (H : AHeap) : ARes :=
 areg (q' (fa' 2 (fr 12)) H ⟨fun v74 H =>
 q' (ld' v74 H) H ⟨fun v75 H =>
 q' (aindexAddrR (.sl 1) (fr 8) v75) H ⟨fun v76 H =>
 q' (ld' v76 H) H ⟨fun v77 H =>
 e' [(2, fr 2), (3, fr 3), (8, fr 8), (9, fr 9), (11, fr 11), (12, fr 12), (14, fr 14), (15, v77)] H⟩⟩⟩⟩)
@[simp] def r19 (fr : AFr) (H : AHeap) : ARes :=
 areg (q' (fa' 0 (fr 12)) H ⟨fun v78 H =>
 q' (ld' v78 H) H ⟨fun v79 H =>
 e' [(2, fr 2), (3, fr 3), (8, fr 8), (9, fr 9), (11, fr 11), (12, fr 12), (14, fr 14), (15, fr 15), (79, v79)] H⟩⟩)
@[simp] def r21 (fr : AFr) (H : AHeap) : ARes :=
 areg (q' (bn' .eql (fr 79) (.int .i64 0)) H ⟨fun v82 H =>
 e' [(2, fr 2), (3, fr 3), (8, fr 8), (9, fr 9), (11, fr 11), (12, fr 12), (14, fr 14), (15, fr 15), (79, fr 79), (81, v82)] H⟩)
@[simp] def r22 (fr : AFr) (H : AHeap) : ARes :=
 areg (q' (aindexAddrR (.sl 1) (fr 2) (fr 9)) H ⟨fun v85 H =>
 q' (ld' v85 H) H ⟨fun v86 H =>
 q' (bn' .add (fr 9) (.int .i64 1)) H ⟨fun v88 H =>
 e' [(2, fr 2), (3, fr 3), (8, fr 8), (9, v88), (11, fr 11), (13, v86)] H⟩⟩⟩)
@[simp] def r23 (fr : AFr) (H : AHeap) : ARes :=
 areg (q' (bn' .eql (fr 79) (.int .i64 1)) H ⟨fun v90 H =>
 e' [(2, fr 2), (3, fr 3), (8, fr 8), (9, fr 9), (11, fr 11), (12, fr 12), (14, fr 14), (15, fr 15), (79, fr 79), (89, v90)] H⟩)
@[simp] def r24 (fr : AFr) (H : AHeap) : ARes :=
 areg (q' (bn' .and (fr 14) (fr 15)) H ⟨fun v93 H =>
 e' [(2, fr 2), (3, fr 3), (8, fr 8), (9, fr 9), (11, fr 11), (13, v93)] H⟩)
@[simp] def r25 (fr : AFr) (H : AHeap) : ARes :=
 areg (q' (bn' .eql (fr 79) (.int .i64 2)) H ⟨fun v95 H =>
 e' [(2, fr 2), (3, fr 3), (8, fr 8), (9, fr 9), (11, fr 11), (12, fr 12), (14, fr 14), (15, fr 15), (79, fr 79), (94, v95)] H⟩)
@[simp] def r26 (fr : AFr) (H : AHeap) : ARes :=
 areg (q' (bn' .xor (fr 14) (fr 15)) H ⟨fun v98 H =>
 e' [(2, fr 2), (3, fr 3), (8, fr 8), (9, fr 9), (11, fr 11), (13, v98)] H⟩)
@[simp] def r27 (fr : AFr) (H : AHeap) : ARes :=
 areg (q' (bn' .eql (fr 79) (.int .i64 3)) H ⟨fun v100 H =>
 e' [(2, fr 2), (3, fr 3), (8, fr 8), (9, fr 9), (11, fr 11), (12, fr 12), (14, fr 14), (79, fr 79), (99, v100)] H⟩)
@[simp] def r28 (fr : AFr) (H : AHeap) : ARes :=
 areg (q' (bn' .sub (W32 4294967295#32) (fr 14)) H ⟨fun v102 H =>
 e' [(2, fr 2), (3, fr 3), (8, fr 8), (9, fr 9), (11, fr 11), (13, v102)] H⟩)
@[simp] def r29 (fr : AFr) (H : AHeap) : ARes :=
 areg (q' (bn' .eql (fr 79) (.int .i64 4)) H ⟨fun v104 H =>
 e' [(2, fr 2), (3, fr 3), (8, fr 8), (9, fr 9), (11, fr 11), (12, fr 12), (14, fr 14), (79, fr 79), (103, v104)] H⟩)
@[simp] def r30 (s3 : SpecP) (fr : AFr) (H : AHeap) : ARes :=
 areg (q' (fa' 3 (fr 12)) H ⟨fun v107 H =>
 q' (ld' v107 H) H ⟨fun v108 H =>
 o' (callP false s3 [[none], [none], [none], [none]] [(.int .i64 0), (fr 14), v108, (.bool false)] H) ⟨fun v109 H =>
 q' (aextract v109 0) H ⟨fun v110 H =>
 q' (aextract v109 1) H ⟨fun v111 H =>
 e' [(2, fr 2), (3, fr 3), (8, fr 8), (9, fr 9), (11, fr 11), (13, v110)] H⟩⟩⟩⟩⟩)
@[simp] def r31 (fr : AFr) (H : AHeap) : ARes :=
 areg (q' (bn' .eql (fr 79) (.int .i64 5)) H ⟨fun v113 H =>
 e' [(2, fr 2), (3, fr 3), (8, fr 8), (9, fr 9), (11, fr 11), (12, fr 12), (14, fr 14), (79, fr 79), (112, v113)] H⟩)
@[simp] def r32 (s3 : SpecP) (fr : AFr) (H : AHeap) : ARes :=
 areg (q' (fa' 3 (fr 12)) H ⟨fun v116 H =>
 q' (ld' v116 H) H ⟨fun v117 H =>
 o' (callP false s3 [[none], [none], [none], [none]] [(.int .i64 1), (fr 14), v117, (.bool false)] H) ⟨fun v118 H =>
 q' (aextract v118 0) H ⟨fun v119 H =>
 q' (aextract v118 1) H ⟨fun v120 H =>
 e' [(2, fr 2), (3, fr 3), (8, fr 8), (9, fr 9), (11, fr 11), (13, v119)] H⟩⟩⟩⟩⟩)
@[simp] def r33 (fr : AFr) (H : AHeap) : ARes :=
 areg (q' (bn' .eql (fr 79) (.int .i64 6)) H ⟨fun v122 H =>
 e' [(2, fr 2), (3, fr 3), (8, fr 8), (9, fr 9), (11, fr 11), (12, fr 12), (14, fr 14), (79, fr 79), (121, v122)] H⟩)
@[simp] def r34 (s4 : SpecP) (fr : AFr) (H : AHeap) : ARes :=
 areg (q' (fa' 3 (fr 12)) H ⟨fun v124 H =>
 q' (ld' v124 H) H ⟨fun v125 H =>
 o' (callP false s4 [[none], [none]] [(fr 14), v125] H) ⟨fun v126 H =>
 e' [(2, fr 2), (3, fr 3), (8, fr 8), (9, fr 9), (11, fr 11), (13, v126)] H⟩⟩⟩)
@[simp] def r35 (fr : AFr) (H : AHeap) : ARes :=
 areg (q' (bn' .eql (fr 79) (.int .i64 7)) H ⟨fun v128 H =>
 e' [(2, fr 2), (3, fr 3), (8, fr 8), (9, fr 9), (11, fr 11), (12, fr 12), (14, fr 14), (127, v128)] H⟩)
@[simp] def r36 (fr : AFr) (H : AHeap) : ARes :=
 areg (q' (fa' 3 (fr 12)) H ⟨fun v129 H =>
 q' (ld' v129 H) H ⟨fun v130 H =>
 e' [(2, fr 2), (3, fr 3), (8, fr 8), (9, fr 9), (11, fr 11), (13, v130)] H⟩⟩)
@[simp] def r20 (fr : AFr) (H : AHeap) : ARes :=
 areg (e' [(2, fr 2), (3, fr 3), (8, fr 8), (9, fr 9), (11, fr 11), (13, (fr 14))] H)
@[simp] def r37 (fr : AFr) (H : AHeap) : ARes :=
 areg (o' (abuildSliceR (some ⟨T.ty_uint32, 1, 4, [(W32 0#32)]⟩) 1 [(0, (fr 13))] H) ⟨fun v133 H =>
 o' (aappendR (some ⟨T.ty_uint32, 1, 4, [(W32 0#32)]⟩) (fr 8) v133 H) ⟨fun v134 H =>
 e' [(2, fr 2), (3, fr 3), (8, v134), (9, fr 9), (11, fr 11)] H⟩⟩)
@[simp] def r12 (fr : AFr) (H : AHeap) : ARes :=
 areg (q' (bn' .add (fr 11) (.int .i64 1)) H ⟨fun v54 H =>
 e' [(2, fr 2), (3, fr 3), (8, fr 8), (9, fr 9), (11, v54)] H⟩)
@[simp] def r38 (fr : AFr) (H : AHeap) : ARes :=
 areg (e' [(6, (fr 8)), (7, (.bool true))] H)
def l0 (s0 s1 s2 s3 s4 : SpecP) (fr : AFr) (H : AHeap) : ARes :=
  s' (s' (r5 fr H) ⟨fun fr H =>
 c' (fr 31)
 ⟨some (.normal, fr, H)⟩
 ⟨some (.exit 0, fr, H)⟩⟩) ⟨fun fr H =>
 s' (aexit 1 (s' (r7 fr H) ⟨fun fr H =>
 c' (fr 37)
 ⟨r8 fr H⟩
 ⟨r9 fr H⟩⟩)) ⟨fun fr H =>
 r6 fr H⟩⟩
def l1 (s0 s1 s2 s3 s4 : SpecP) (fr : AFr) (H : AHeap) : ARes :=
  s' (s' (r11 fr H) ⟨fun fr H =>
 c' (fr 52)
 ⟨some (.normal, fr, H)⟩
 ⟨some (.exit 2, fr, H)⟩⟩) ⟨fun fr H =>
 s' (aexit 3 (s' (r13 fr H) ⟨fun fr H =>
 s' (r14 fr H) ⟨fun fr H =>
 s' (s' (r15 s2 fr H) ⟨fun fr H =>
 c' (fr 63)
 ⟨r16 fr H⟩
 ⟨some (.normal, fr, H)⟩⟩) ⟨fun fr H =>
 s' (s' (r17 s2 fr H) ⟨fun fr H =>
 c' (fr 72)
 ⟨r18 fr H⟩
 ⟨some (.normal, fr, H)⟩⟩) ⟨fun fr H =>
 s' (s' (r19 fr H) ⟨fun fr H =>
  aexit 4 (s' (r21 fr H) ⟨fun fr H =>
 c' (fr 81)
 ⟨r22 fr H⟩
 ⟨s' (r23 fr H) ⟨fun fr H =>
 c' (fr 89)
 ⟨r24 fr H⟩
 ⟨s' (r25 fr H) ⟨fun fr H =>
 c' (fr 94)
 ⟨r26 fr H⟩
 ⟨s' (r27 fr H) ⟨fun fr H =>
 c' (fr 99)
 ⟨r28 fr H⟩
 ⟨s' (r29 fr H) ⟨fun fr H =>
 c' (fr 103)
 ⟨r30 s3 fr H⟩
 ⟨s' (r31 fr H) ⟨fun fr H =>
 c' (fr 112)
 ⟨r32 s3 fr H⟩
 ⟨s' (r33 fr H) ⟨fun fr H =>
 c' (fr 121)
 ⟨r34 s4 fr H⟩
 ⟨s' (r35 fr H) ⟨fun fr H =>
 c' (fr 127)
 ⟨r36 fr H⟩
 ⟨r20 fr H⟩⟩⟩⟩⟩⟩⟩⟩⟩⟩⟩⟩⟩⟩⟩⟩)⟩) ⟨fun fr H =>
 r37 fr H⟩⟩⟩⟩⟩)) ⟨fun fr H =>
 r12 fr H⟩⟩
@[simp] def body (s0 s1 s2 s3 s4 : SpecP) (fr : AFr) (H : AHeap) : ARes :=
  s' (r0 fr H) ⟨fun fr H =>
 s' (r1 fr H) ⟨fun fr H =>
 s' (s' (r2 s0 s1 fr H) ⟨fun fr H =>
 c' (fr 26)
 ⟨s' (r3 fr H) ⟨fun fr H =>
 some (.ret, fr, H)⟩⟩
 ⟨some (.normal, fr, H)⟩⟩) ⟨fun fr H =>
 s' (s' (r4 fr H) ⟨fun fr H =>
  aexit 0 (aloop (l0 s0 s1 s2 s3 s4) fr H)⟩) ⟨fun fr H =>
 s' (s' (r10 fr H) ⟨fun fr H =>
  aexit 2 (aloop (l1 s0 s1 s2 s3 s4) fr H)⟩) ⟨fun fr H =>
 s' (r38 fr H) ⟨fun fr H =>
 some (.ret, fr, H)⟩⟩⟩⟩⟩⟩
@[simp] def res (fr : AFr) (H : AHeap) : Option (List AV) := res2 (some (fr 6)) (res2 (some (fr 7)) (some []))
end ref19_Exec
def ref19_Exec (a0 a1 a2 : AV) : Option AV := closeUpR (some [[some 1], [none]]) (afinR ref19_Exec.res (ref19_Exec.body ref19_Can.spec ref19_Randoms.spec ref19_Takes.spec ref01_Shift.spec ref01_Rot.spec (args0 [a0, a1, a2]) AHeap.empty))
def ref19_Exec.spec : List AV → Option AV
  | [a0, a1, a2] => ref19_Exec a0 a1 a2
  | _ => none
namespace ref19_Bits
def C : Tab := Tab.none
@[simp] def r0 (fr : AFr) (H : AHeap) : ARes :=
 areg (e' [(0, fr 0), (1, fr 1)] H)
@[simp] def r1 (fr : AFr) (H : AHeap) : ARes :=
 areg (o' (abuildSliceR (some ⟨T.ty_uint32, 1, 4, [(W32 0#32)]⟩) 0 [] H) ⟨fun v7 H =>
 e' [(0, fr 0), (1, fr 1), (5, v7)] H⟩)
@[simp] def r2 (fr : AFr) (H : AHeap) : ARes :=
 areg (e' [(0, fr 0), (1, fr 1), (5, fr 5), (6, (.int .i64 0))] H)
@[simp] def r3 (fr : AFr) (H : AHeap) : ARes :=
 areg (q' (bn' .lss (fr 6) (fr 1)) H ⟨fun v10 H =>
 e' [(0, fr 0), (1, fr 1), (5, fr 5), (6, fr 6), (10, v10)] H⟩)
@[simp] def r5 (fr : AFr) (H : AHeap) : ARes :=
 areg (q' (bn' .rem (fr 0) (.int .i64 2)) H ⟨fun v15 H =>
 q' (aconvR (some .u32) v15) H ⟨fun v16 H =>
 o' (abuildSliceR (some ⟨T.ty_uint32, 1, 4, [(W32 0#32)]⟩) 1 [(0, v16)] H) ⟨fun v17 H =>
 o' (aappendR (some ⟨T.ty_uint32, 1, 4, [(W32 0#32)]⟩) (fr 5) v17 H) ⟨fun v18 H =>
 e' [(0, fr 0), (1, fr 1), (5, v18), (6, fr 6)] H⟩⟩⟩⟩)
@[simp] def r6 (fr : AFr) (H : AHeap) : ARes :=
 areg (q' (bn' .quo (fr 0) (.int .i64 2)) H ⟨fun v20 H =>
 e' [(0, v20), (1, fr 1), (5, fr 5), (6, fr 6)] H⟩)
@[simp] def r4 (fr : AFr) (H : AHeap) : ARes :=
 areg (q' (bn' .add (fr 6) (.int .i64 1)) H ⟨fun v12 H =>
 e' [(0, fr 0), (1, fr 1), (5, fr 5), (6, v12)] H⟩)
@[simp] def r7 (fr : AFr) (H : AHeap) : ARes :=
 areg (e' [(4, (fr 5))] H)
def l0 (fr : AFr) (H : AHeap) : ARes :=
  s' (s' (r3 fr H) ⟨fun fr H =>
 c' (fr 10)
 ⟨some (.normal, fr, H)⟩
 ⟨some (.exit 0, fr, H)⟩⟩) ⟨fun fr H =>
 s' (aexit 1 (s' (r5 fr H) ⟨fun fr H =>
 r6 fr H⟩)) ⟨fun fr H =>
 r4 fr H⟩⟩
@[simp] def body (fr : AFr) (H : AHeap) : ARes :=
  s' (r0 fr H) ⟨fun fr H =>
 s' (r1 fr H) ⟨fun fr H =>
 s' (s' (r2 fr H) ⟨fun fr H =>
  aexit 0 (aloop (l0) fr H)⟩) ⟨fun fr H =>
 s' (r7 fr H) ⟨fun fr H =>
 some (.ret, fr, H)⟩⟩⟩⟩
@[simp] def res (fr : AFr) (H : AHeap) : Option (List AV) := res2 (some (fr 4)) (some [])
end ref19_Bits
def ref19_Bits (a0 a1 : AV) : Option AV := closeUpR (some [[some 1]]) (afinR ref19_Bits.res (ref19_Bits.body (args0 [a0, a1]) AHeap.empty))
def ref19_Bits.spec : List AV → Option AV
  | [a0, a1] => ref19_Bits a0 a1
  | _ => none
namespace ref19_Spread
def C (s0 s1 s2 : SpecP) : Tab := (((Tab.none.add 22 (.pure false s0)).add 47 (.pure false s1)).add 39 (.pure false s2))
@[simp] def r0 (fr : AFr) (H : AHeap) : ARes :=
 areg (o' (abox T.ty_api_Code (fr 0) H) ⟨fun v3 H =>
 e' [(1, fr 1), (2, fr 2), (3, v3)] H⟩)
@[simp] def r1 (fr : AFr) (H : AHeap) : ARes :=
 areg (o' (abuildSliceR (some ⟨T.ty_int, 1, 8, [(.int .i64 0)]⟩) 1 [(0, (.int .i64 1))] H) ⟨fun v17 H =>
 e' [(1, fr 1), (2, fr 2), (3, fr 3), (7, v17), (8, (.int .i64 1))] H⟩)
@[simp] def r2 (fr : AFr) (H : AHeap) : ARes :=
 areg (e' [(1, fr 1), (2, fr 2), (3, fr 3), (7, fr 7), (8, fr 8), (9, (.int .i64 0))] H)
@[simp] def r3 (fr : AFr) (H : AHeap) : ARes :=
 areg (q' (alenR .sl (fr 2)) H ⟨fun v20 H =>
 q' (bn' .lss (fr 9) v20) H ⟨fun v21 H =>
 e' [(1, fr 1), (2, fr 2), (3, fr 3), (7, fr 7), (8, fr 8), (9, fr 9), (21, v21)] H⟩⟩)
@[simp] def r5 (fr : AFr) (H : AHeap) : ARes :=
 areg (o' (aappendR (some ⟨T.ty_int, 1, 8, [(.int .i64 0)]⟩) (fr 7) (fr 7) H) ⟨fun v26 H =>
 e' [(1, fr 1), (2, fr 2), (3, fr 3), (7, v26), (8, fr 8), (9, fr 9)] H⟩)
@[simp] def r4 (fr : AFr) (H : AHeap) : ARes :=
 areg (q' (bn' .add (fr 9) (.int .i64 1)) H ⟨fun v23 H =>
 e' [(1, fr 1), (2, fr 2), (3, fr 3), (7, fr 7), (8, fr 8), (9, v23)] H⟩)
@[simp] def r6 (fr : AFr) (H : AHeap) : ARes :=
 areg (e' [(1, fr 1), (2, fr 2), (3, fr 3), (7, fr 7), (8, fr 8), (10, (.int .i64 0))] H)
@[simp] def r7 (fr : AFr) (H : AHeap) : ARes :=
 areg (q' (alenR .sl (fr 7)) H ⟨fun v29 H =>
 q' (bn' .lss (fr 10) v29) H ⟨fun v30 H =>
 e' [(1, fr 1), (2, fr 2), (3, fr 3), (7, fr 7), (8, fr 8), (10, fr 10), (30, v30)] H⟩⟩)
@[simp] def r9 (fr : AFr) (H : AHeap) : ARes :=
 areg (q' (aindexAddrR (.sl 1) (fr 7) (fr 10)) H ⟨fun v35 H =>
 w' (astoreR (some 1) v35 (.int .i64 0) H) ⟨fun _ H =>
 e' [(1, fr 1), (2, fr 2), (3, fr 3), (7, fr 7), (8, fr 8), (10, fr 10)] H⟩⟩)
@[simp] def r8 (fr : AFr) (H : AHeap) : ARes :=
 areg (q' (bn' .add (fr 10) (.int .i64 1)) H ⟨fun v32 H =>
 e' [(1, fr 1), (2, fr 2), (3, fr 3), (7, fr 7), (8, fr 8), (10, v32)] H⟩)
@[simp] def r10 (fr : AFr) (H : AHeap) : ARes :=
 areg (e' [(1, fr 1), (2, fr 2), (3, fr 3), (7, fr 7), (8, fr 8), (11, (.int .i64 0))] H)
@[simp] def r11 (s0 : SpecP) (fr : AFr) (H : AHeap) : ARes :=
 areg (q' (Ld' 3 (fr 3) H) H ⟨fun v37 H =>
 o' (callP false s0 [[none, some 4, some 1]] [v37] H) ⟨fun v38 H =>
 q' (bn' .lss (fr 11) v38) H ⟨fun v39 H =>
 e' [(1, fr 1), (2, fr 2), (3, fr 3), (7, fr 7), (8, fr 8), (11, fr 11), (39, v39)] H⟩⟩⟩)
@[simp] def r13 (fr : AFr) (H : AHeap) : ARes :=
 areg (q' (bn' .mul (fr 8) (.int .i64 2)) H ⟨fun v43 H =>
 e' [(1, fr 1), (2, fr 2), (3, fr 3), (7, fr 7), (8, v43), (11, fr 11)] H⟩)
@[simp] def r12 (fr : AFr) (H : AHeap) : ARes :=
 areg (q' (bn' .add (fr 11) (.int .i64 1)) H ⟨fun v41 H =>
 e' [(1, fr 1), (2, fr 2), (3, fr 3), (7, fr 7), (8, fr 8), (11, v41)] H⟩)
@[simp] def r14 (fr : AFr) (H : AHeap) : ARes :=
 areg (e' [(1, fr 1), (2, fr 2), (3, fr 3), (7, fr 7), (8, fr 8), (12, (.int .i64 0))] H)
@[simp] def r15 (fr : AFr) (H : AHeap) : ARes :=
 areg (q' (bn' .lss (fr 12) (fr 8)) H ⟨fun v46 H =>
 e' [(1, fr 1), (2, fr 2), (3, fr 3), (7, fr 7), (8, fr 8), (12, fr 12), (46, v46)] H⟩)
@[simp] def r17 (s0 s1 s2 : SpecP) (fr : AFr) (H : AHeap) : ARes :=
 areg (q' (Ld' 3 (fr 3) H) H ⟨fun v50 H1 =>
 q' (some (fr 1)) H1 ⟨fun v51 H2 =>
 q' (some (fr 12)) H2 ⟨fun v52 H3 =>
 q' (Ld' 3 (fr 3) H3) H3 ⟨fun v53 H4 =>
 o' (callP false s0 [[none, some 4, some 1]] [v53] H4) ⟨fun v54 H5 =>
 o' (callP false s1 [[none], [none]] [v52, v54] H5) ⟨fun v55 H6 =>
 o' (callP false s2 [[none, some 4, some 1], [some 1], [some 1]] [v50, v51, v55] H6) ⟨fun v56 H7 =>
 q' (some v56) H7 ⟨fun v49 H8 =>
 q' (aextract v49 0) H8 ⟨fun v57 H9 =>
 q' (aextract v49 1) H9 ⟨fun v58 H10 =>
 q' (some v57) H10 ⟨fun v13 H11 =>
 q' (some v58) H11 ⟨fun v14 H12 =>
 withChk [aloadR (some (some 3)) (fr 3) H4 = aloadR (some (some 3)) (fr 3) H5, aloadR (some (some 3)) (fr 3) H5 = aloadR (some (some 3)) (fr 3) H6] (e' [(1, fr 1), (2, fr 2), (3, fr 3), (7, fr 7), (8, fr 8), (12, fr 12), (13, v13)] H12)⟩⟩⟩⟩⟩⟩⟩⟩⟩⟩⟩⟩)
@[simp] def r18 (fr : AFr) (H : AHeap) : ARes :=
 areg (e' [(1, fr 1), (2, fr 2), (3, fr 3), (7, fr 7), (8, fr 8), (12, fr 12), (13, fr 13), (15, (.int .i64 0))] H)
@[simp] def r19 (fr : AFr) (H : AHeap) : ARes :=
 areg (e' [(1, fr 1), (2, fr 2), (3, fr 3), (7, fr 7), (8, fr 8), (12, fr 12), (13, fr 13), (15, fr 15), (16, (.int .i64 0))] H)
@[simp] def r20 (fr : AFr) (H : AHeap) : ARes :=
 areg (q' (alenR .sl (fr 2)) H ⟨fun v61 H =>
 q' (bn' .lss (fr 16) v61) H ⟨fun v62 H =>
 e' [(1, fr 1), (2, fr 2), (3, fr 3), (7, fr 7), (8, fr 8), (12, fr 12), (13, fr 13), (15, fr 15), (16, fr 16), (62, v62)] H⟩⟩)
@[simp] def r22 (fr : AFr) (H : AHeap) : ARes :=
 areg (q' (bn' .mul (fr 15) (.int .i64 2)) H ⟨fun v66 H =>
 q' (aindexAddrR (.sl 1) (fr 2) (fr 16)) H ⟨fun v70 H =>
 q' (ld' v70 H) H ⟨fun v71 H =>
 q' (aindexAddrR (.sl 1) (fr 13) v71) H ⟨fun v72 H =>
 q' (ld' v72 H) H ⟨fun v73 H =>
 q' (bn' .rem v73 (W32 2#32)) H ⟨fun v74 H =>
 q' (aconvR (some .i64) v74) H ⟨fun v75 H =>
 q' (bn' .add v66 v75) H ⟨fun v76 H =>
 e' [(1, fr 1), (2, fr 2), (3, fr 3), (7, fr 7), (8, fr 8), (12, fr 12), (13, fr 13), (15, v76), (16, fr 16)] H⟩⟩⟩⟩⟩⟩⟩⟩)
@[simp] def r21 (fr : AFr) (H : AHeap) : ARes :=
 areg (q' (bn' .add (fr 16) (.int .i64 1)) H ⟨fun v64 H =>
 e' [(1, fr 1), (2, fr 2), (3, fr 3), (7, fr 7), (8, fr 8), (12, fr 12), (13, fr 13), (15, fr 15), (16, v64)] H⟩)
@[simp] def r23 (fr : AFr) (H : AHeap) : ARes :=
 areg (q' (aindexAddrR (.sl 1) (fr 7) (fr 15)) H ⟨fun v79 H =>
 q' (ld' v79 H) H ⟨fun v80 H =>
 q' (bn' .add v80 (.int .i64 1)) H ⟨fun v81 H =>
 q' (aindexAddrR (.sl 1) (fr 7) (fr 15)) H ⟨fun v82 H =>
 w' (astoreR (some 1) v82 v81 H) ⟨fun _ H =>
 e' [(1, fr 1), (2, fr 2), (3, fr 3), (7, fr 7), (8, fr 8), (12, fr 12)] H⟩⟩⟩⟩⟩)
@[simp] def r16 (fr : AFr) (H : AHeap) : ARes :=
 areg (q' (bn' .add (fr 12) (.int .i64 1)) H ⟨fun v48 H =>
 e' [(1, fr 1), (2, fr 2), (3, fr 3), (7, fr 7), (8, fr 8), (12, v48)] H⟩)
@[simp] def r24 (fr : AFr) (H : AHeap) : ARes :=
 areg (e' [(6, (fr 7))] H)
def l0 (s0 s1 s2 : SpecP) (fr : AFr) (H : AHeap) : ARes :=
  s' (s' (r3 fr H) ⟨fun fr H =>
 c' (fr 21)
 ⟨some (.normal, fr, H)⟩
 ⟨some (.exit 0, fr, H)⟩⟩) ⟨fun fr H =>
 s' (aexit 1 (r5 fr H)) ⟨fun fr H =>
 r4 fr H⟩⟩
def l1 (s0 s1 s2 : SpecP) (fr : AFr) (H : AHeap) : ARes :=
  s' (s' (r7 fr H) ⟨fun fr H =>
 c' (fr 30)
 ⟨some (.normal, fr, H)⟩
 ⟨some (.exit 2, fr, H)⟩⟩) ⟨fun fr H =>
 s' (aexit 3 (r9 fr H)) ⟨fun fr H =>
 r8 fr H⟩⟩
def l2 (s0 s1 s2 : SpecP) (fr : AFr) (H : AHeap) : ARes :=
  s' (s' (r11 s0 fr H) ⟨fun fr H =>
 c' (fr 39)
 ⟨some (.normal, fr, H)⟩
 ⟨some (.exit 4, fr, H)⟩⟩) ⟨fun fr H =>
 s' (aexit 5 (r13 fr H)) ⟨fun fr H =>
 r12 fr H⟩⟩
def l4 (s0 s1 s2 : SpecP) (fr : AFr) (H : AHeap) : ARes :=
  s' (s' (r20 fr H) ⟨fun fr H =>
 c' (fr 62)
 ⟨some (.normal, fr, H)⟩
 ⟨some (.exit 8, fr, H)⟩⟩) ⟨fun fr H =>
 s' (aexit 9 (r22 fr H)) ⟨fun fr H =>
 r21 fr H⟩⟩
def l3 (s0 s1 s2 : SpecP) (fr : AFr) (H : AHeap) : ARes :=
  s' (s' (r15 fr H) ⟨fun fr H =>
 c' (fr 46)
 ⟨some (.normal, fr, H)⟩
 ⟨some (.exit 6, fr, H)⟩⟩) ⟨fun fr H =>
 s' (aexit 7 (s' (r17 s0 s1 s2 fr H) ⟨fun fr H =>
 s' (r18 fr H) ⟨fun fr H =>
 s' (s' (r19 fr H) ⟨fun fr H =>
  aexit 8 (aloop (l4 s0 s1 s2) fr H)⟩) ⟨fun fr H =>
 r23 fr H⟩⟩⟩)) ⟨fun fr H =>
 r16 fr H⟩⟩
@[simp] def body (s0 s1 s2 : SpecP) (fr : AFr) (H : AHeap) : ARes :=
  s' (r0 fr H) ⟨fun fr H =>
 s' (r1 fr H) ⟨fun fr H =>
 s' (s' (r2 fr H) ⟨fun fr H =>
  aexit 0 (aloop (l0 s0 s1 s2) fr H)⟩) ⟨fun fr H =>
 s' (s' (r6 fr H) ⟨fun fr H =>
  aexit 2 (aloop (l1 s0 s1 s2) fr H)⟩) ⟨fun fr H =>
 s' (s' (r10 fr H) ⟨fun fr H =>
  aexit 4 (aloop (l2 s0 s1 s2) fr H)⟩) ⟨fun fr H =>
 s' (s' (r14 fr H) ⟨fun fr H =>
  aexit 6 (aloop (l3 s0 s1 s2) fr H)⟩) ⟨fun fr H =>
 s' (r24 fr H) ⟨fun fr H =>
 some (.ret, fr, H)⟩⟩⟩⟩⟩⟩⟩
@[simp] def res (fr : AFr) (H : AHeap) : Option (List AV) := res2 (some (fr 6)) (some [])
end ref19_Spread
def ref19_Spread (a0 a1 a2 : AV) : Option AV := closeUpR (some [[some 1]]) (afinR ref19_Spread.res (ref19_Spread.body ref19_Randoms.spec ref19_Bits.spec ref19_Exec.spec (args0 [a0, a1, a2]) AHeap.empty))
def ref19_Spread.spec : List AV → Option AV
  | [a0, a1, a2] => ref19_Spread a0 a1 a2
  | _ => none
namespace ref19_Matter
def C (s0 s1 s2 : SpecP) : Tab := (((Tab.none.add 47 (.pure false s0)).add 49 (.pure false s1)).add 21 (.pure false s2))
@[simp] def r0 (fr : AFr) (H : AHeap) : ARes :=
 areg (o' (abox T.ty_api_Code (fr 0) H) ⟨fun v2 H =>
 e' [(1, fr 1), (2, v2)] H⟩)
@[simp] def r1 (fr : AFr) (H : AHeap) : ARes :=
 areg (q' (fa' 0 (fr 2)) H ⟨fun v14 H =>
 q' (ld' v14 H) H ⟨fun v15 H =>
 o' (amakeR (some ⟨T.ty_bool, 1, 1, [(.bool false)]⟩) v15 v15 H) ⟨fun v16 H =>
 o' (abuildSliceR (some ⟨T.ty_sl_int, 1, 24, [.nils]⟩) 0 [] H) ⟨fun v17 H =>
 e' [(1, fr 1), (2, fr 2), (5, v16), (6, v17), (7, (.int .i64 1))] H⟩⟩⟩⟩)
@[simp] def r2 (fr : AFr) (H : AHeap) : ARes :=
 areg (e' [(1, fr 1), (2, fr 2), (5, fr 5), (6, fr 6), (7, fr 7), (8, (.int .i64 0))] H)
@[simp] def r3 (fr : AFr) (H : AHeap) : ARes :=
 areg (q' (fa' 0 (fr 2)) H ⟨fun v19 H =>
 q' (ld' v19 H) H ⟨fun v20 H =>
 q' (bn' .lss (fr 8) v20) H ⟨fun v21 H =>
 e' [(1, fr 1), (2, fr 2), (5, fr 5), (6, fr 6), (7, fr 7), (8, fr 8), (21, v21)] H⟩⟩⟩)
@[simp] def r5 (fr : AFr) (H : AHeap) : ARes :=
 areg (q' (bn' .mul (fr 7) (.int .i64 2)) H ⟨fun v25 H =>
 e' [(1, fr 1), (2, fr 2), (5, fr 5), (6, fr 6), (7, v25), (8, fr 8)] H⟩)
@[simp] def r4 (fr : AFr) (H : AHeap) : ARes :=
 areg (q' (bn' .add (fr 8) (.int .i64 1)) H ⟨fun v23 H =>
 e' [(1, fr 1), (2, fr 2), (5, fr 5), (6, fr 6), (7, fr 7), (8, v23)] H⟩)
@[simp] def r6 (fr : AFr) (H : AHeap) : ARes :=
 areg (e' [(1, fr 1), (2, fr 2), (5, fr 5), (6, fr 6), (7, fr 7), (9, (.int .i64 0))] H)
@[simp] def r7 (fr : AFr) (H : AHeap) : ARes :=
 areg (q' (bn' .lss (fr 9) (fr 7)) H ⟨fun v28 H =>
 e' [(1, fr 1), (2, fr 2), (5, fr 5), (6, fr 6), (7, fr 7), (9, fr 9), (28, v28)] H⟩)
@[simp] def r9 (s0 s1 : SpecP) (fr : AFr) (H : AHeap) : ARes :=
 areg (q' (Ld' 3 (fr 2) H) H ⟨fun v31 H1 =>
 q' (some (fr 9)) H1 ⟨fun v32 H2 =>
 q' (fa' 0 (fr 2)) H2 ⟨fun v33 H3 =>
 q' (ld' v33 H3) H3 ⟨fun v34 H4 =>
 o' (callP false s0 [[none], [none]] [v32, v34] H4) ⟨fun v35 H5 =>
 q' (some (fr 1)) H5 ⟨fun v36 H6 =>
 o' (callP false s1 [[none, some 4, some 1], [some 1], [some 1]] [v31, v35, v36] H6) ⟨fun v37 H7 =>
 q' (some v37) H7 ⟨fun v10 H8 =>
 withChk [aloadR (some (some 3)) (fr 2) H4 = aloadR (some (some 3)) (fr 2) H5] (e' [(1, fr 1), (2, fr 2), (5, fr 5), (6, fr 6), (7, fr 7), (9, fr 9), (10, v10)] H8)⟩⟩⟩⟩⟩⟩⟩⟩)
@[simp] def r10 (fr : AFr) (H : AHeap) : ARes :=
 areg (o' (abuildSliceR (some ⟨T.ty_sl_int, 1, 24, [.nils]⟩) 1 [(0, (fr 10))] H) ⟨fun v40 H =>
 o' (aappendR (some ⟨T.ty_sl_int, 1, 24, [.nils]⟩) (fr 6) v40 H) ⟨fun v41 H =>
 e' [(1, fr 1), (2, fr 2), (5, fr 5), (6, v41), (7, fr 7), (9, fr 9)] H⟩⟩)
@[simp] def r8 (fr : AFr) (H : AHeap) : ARes :=
 areg (q' (bn' .add (fr 9) (.int .i64 1)) H ⟨fun v30 H =>
 e' [(1, fr 1), (2, fr 2), (5, fr 5), (6, fr 6), (7, fr 7), (9, v30)] H⟩)
@[simp] def r11 (fr : AFr) (H : AHeap) : ARes :=
 areg (e' [(2, fr 2), (5, fr 5), (6, fr 6), (7, fr 7), (11, (.int .i64 0))] H)
@[simp] def r12 (fr : AFr) (H : AHeap) : ARes :=
 areg (q' (bn' .lss (fr 11) (fr 7)) H ⟨fun v44 H =>
 e' [(2, fr 2), (5, fr 5), (6, fr 6), (7, fr 7), (11, fr 11), (44, v44)] H⟩)
@[simp] def r14 (fr : AFr) (H : AHeap) : ARes :=
 areg (e' [(2, fr 2), (5, fr 5), (6, fr 6), (7, fr 7), (11, fr 11), (12, (.int .i64 1))] H)
@[simp] def r15 (fr : AFr) (H : AHeap) : ARes :=
 areg (e' [(2, fr 2), (5, fr 5), (6, fr 6), (7, fr 7), (11, fr 11), (12, fr 12), (13, (.int .i64 0))] H)
@[simp] def r16 (fr : AFr) (H : AHeap) : ARes :=
 areg (q' (fa' 0 (fr 2)) H ⟨fun v48 H =>
 q' (ld' v48 H) H ⟨fun v49 H =>
 q' (bn' .lss (fr 13) v49) H ⟨fun v50 H =>
 e' [(2, fr 2), (5, fr 5), (6, fr 6), (7, fr 7), (11, fr 11), (12, fr 12), (13, fr 13), (50, v50)] H⟩⟩⟩)
@[simp] def r18 (s2 : SpecP) (fr : AFr) (H : AHeap) : ARes :=
 areg (q' (some (fr 11)) H ⟨fun v53 H1 =>
 q' (some (fr 12)) H1 ⟨fun v54 H2 =>
 q' (bn' .quo v53 v54) H2 ⟨fun v55 H3 =>
 q' (bn' .rem v55 (.int .i64 2)) H3 ⟨fun v56 H4 =>
 q' (bn' .eql v56 (.int .i64 0)) H4 ⟨fun v57 H5 =>
 q' (some v57) H5 ⟨fun v58 H6 =>
 G' v58 true ⟨some (fr 6)⟩ H6 ⟨fun v59 H7 =>
 G' v58 true ⟨some (fr 11)⟩ H7 ⟨fun v60 H8 =>
 G' v58 true ⟨aindexAddrR (.sl 1) v59 v60⟩ H8 ⟨fun v61 H9 =>
 G' v58 true ⟨ld' v61 H9⟩ H9 ⟨fun v62 H10 =>
 G' v58 true ⟨some (fr 6)⟩ H10 ⟨fun v63 H11 =>
 G' v58 true ⟨some (fr 11)⟩ H11 ⟨fun v64 H12 =>
 G' v58 true ⟨some (fr 12)⟩ H12 ⟨fun v65 H13 =>
 G' v58 true ⟨bn' .add v64 v65⟩ H13 ⟨fun v66 H14 =>
 G' v58 true ⟨aindexAddrR (.sl 1) v63 v66⟩ H14 ⟨fun v67 H15 =>
 G' v58 true ⟨ld' v67 H15⟩ H15 ⟨fun v68 H16 =>
 o' (g' (gw v58 true) ⟨callP false s2 [[some 1], [some 1]] [v62, v68] H16⟩ H16) ⟨fun v69 H17 =>
 G' v58 true ⟨aun .not v69⟩ H17 ⟨fun v70 H18 =>
 q' (apick v58 v70 (.bool false)) H18 ⟨fun v71 H19 =>
 e' [(2, fr 2), (5, fr 5), (6, fr 6), (7, fr 7), (11, fr 11), (12, fr 12), (13, fr 13), (71, v71)] H19⟩⟩⟩⟩⟩⟩⟩⟩⟩⟩⟩⟩⟩⟩⟩⟩⟩⟩⟩)
@[simp] def r19 (fr : AFr) (H : AHeap) : ARes :=
 areg (q' (aindexAddrR (.sl 1) (fr 5) (fr 13)) H ⟨fun v74 H =>
 w' (astoreR (some 1) v74 (.bool true) H) ⟨fun _ H =>
 e' [(2, fr 2), (5, fr 5), (6, fr 6), (7, fr 7), (11, fr 11), (12, fr 12), (13, fr 13)] H⟩⟩)
@[simp] def r20 (fr : AFr) (H : AHeap) : ARes :=
 areg (q' (bn' .mul (fr 12) (.int .i64 2)) H ⟨fun v76 H =>
 e' [(2, fr 2), (5, fr 5), (6, fr 6), (7, fr 7), (11, fr 11), (12, v76), (13, fr 13)] H⟩)
@[simp] def r17 (fr : AFr) (H : AHeap) : ARes :=
 areg (q' (bn' .add (fr 13) (.int .i64 1)) H ⟨fun v52 H =>
 e' [(2, fr 2), (5, fr 5), (6, fr 6), (7, fr 7), (11, fr 11), (12, fr 12), (13, v52)] H⟩)
@[simp] def r13 (fr : AFr) (H : AHeap) : ARes :=
 areg (q' (bn' .add (fr 11) (.int .i64 1)) H ⟨fun v46 H =>
 e' [(2, fr 2), (5, fr 5), (6, fr 6), (7, fr 7), (11, v46)] H⟩)
@[simp] def r21 (fr : AFr) (H : AHeap) : ARes :=
 areg (e' [(4, (fr 5))] H)
def l0 (s0 s1 s2 : SpecP) (fr : AFr) (H : AHeap) : ARes :=
  s' (s' (r3 fr H) ⟨fun fr H =>
 c' (fr 21)
 ⟨some (.normal, fr, H)⟩
 ⟨some (.exit 0, fr, H)⟩⟩) ⟨fun fr H =>
 s' (aexit 1 (r5 fr H)) ⟨fun fr H =>
 r4 fr H⟩⟩
def l1 (s0 s1 s2 : SpecP) (fr : AFr) (H : AHeap) : ARes :=
  s' (s' (r7 fr H) ⟨fun fr H =>
 c' (fr 28)
 ⟨some (.normal, fr, H)⟩
 ⟨some (.exit 2, fr, H)⟩⟩) ⟨fun fr H =>
 s' (aexit 3 (s' (r9 s0 s1 fr H) ⟨fun fr H =>
 r10 fr H⟩)) ⟨fun fr H =>
 r8 fr H⟩⟩
def l3 (s0 s1 s2 : SpecP) (fr : AFr) (H : AHeap) : ARes :=
  s' (s' (r16 fr H) ⟨fun fr H =>
 c' (fr 50)
 ⟨some (.normal, fr, H)⟩
 ⟨some (.exit 6, fr, H)⟩⟩) ⟨fun fr H =>
 s' (aexit 7 (s' (s' (r18 s2 fr H) ⟨fun fr H =>
 c' (fr 71)
 ⟨r19 fr H⟩
 ⟨some (.normal, fr, H)⟩⟩) ⟨fun fr H =>
 r20 fr H⟩)) ⟨fun fr H =>
 r17 fr H⟩⟩
def l2 (s0 s1 s2 : SpecP) (fr : AFr) (H : AHeap) : ARes :=
  s' (s' (r12 fr H) ⟨fun fr H =>
 c' (fr 44)
 ⟨some (.normal, fr, H)⟩
 ⟨some (.exit 4, fr, H)⟩⟩) ⟨fun fr H =>
 s' (aexit 5 (s' (r14 fr H) ⟨fun fr H =>
 s' (r15 fr H) ⟨fun fr H =>
  aexit 6 (aloop (l3 s0 s1 s2) fr H)⟩⟩)) ⟨fun fr H =>
 r13 fr H⟩⟩
@[simp] def body (s0 s1 s2 : SpecP) (fr : AFr) (H : AHeap) : ARes :=
  s' (r0 fr H) ⟨fun fr H =>
 s' (r1 fr H) ⟨fun fr H =>
 s' (s' (r2 fr H) ⟨fun fr H =>
  aexit 0 (aloop (l0 s0 s1 s2) fr H)⟩) ⟨fun fr H =>
 s' (s' (r6 fr H) ⟨fun fr H =>
  aexit 2 (aloop (l1 s0 s1 s2) fr H)⟩) ⟨fun fr H =>
 s' (s' (r11 fr H) ⟨fun fr H =>
  aexit 4 (aloop (l2 s0 s1 s2) fr H)⟩) ⟨fun fr H =>
 s' (r21 fr H) ⟨fun fr H =>
 some (.ret, fr, H)⟩⟩⟩⟩⟩⟩
@[simp] def res (fr : AFr) (H : AHeap) : Option (List AV) := res2 (some (fr 4)) (some [])
end ref19_Matter
def ref19_Matter (a0 a1 : AV) : Option AV := closeUpR (some [[some 1]]) (afinR ref19_Matter.res (ref19_Matter.body ref19_Bits.spec ref19_Spread.spec ref02_Same.spec (args0 [a0, a1]) AHeap.empty))
def ref19_Matter.spec : List AV → Option AV
  | [a0, a1] => ref19_Matter a0 a1
  | _ => none
end
end Go.Abs
