/-
  The functions, as they are over abstract values. Printed by gen.py.
-/
import Derived.Test.YteohnepdbjmghaaLoF
set_option linter.unusedVariables false
namespace Go.Abs
noncomputable section
namespace ref04_Num
def C (s0 : SpecP) : Tab := (Tab.none.add 76 (.pure false s0))
@[simp] def r0 (fr : AFr) (H : AHeap) : ARes :=
 areg (e' [(0, fr 0)] H)
@[simp] def r1 (fr : AFr) (H : AHeap) : ARes :=
 areg (q' (bn' .lss (fr 0) (.int .i64 0)) H ⟨fun v4 H =>
 e' [(0, fr 0), (4, v4)] H⟩)
@[simp] def r2 (s0 : SpecP) (fr : AFr) (H : AHeap) : ARes :=
 areg (q' (aun .neg (fr 0)) H ⟨fun v6 H =>
 o' (callP false s0 [[none]] [v6] H) ⟨fun v7 H =>
 q' (abinR .t .add (.str (bs [45])) v7) H ⟨fun v8 H =>
 e' [(2, v8)] H⟩⟩⟩)
@[simp] def r3 (fr : AFr) (H : AHeap) : ARes :=
 areg (q' (bn' .lss (fr 0) (.int .i64 10)) H ⟨fun v10 H =>
 e' [(0, fr 0), (10, v10)] H⟩)
@[simp] def r4 (fr : AFr) (H : AHeap) : ARes :=
 areg (q' (bn' .add (fr 0) (.int .i64 1)) H ⟨fun v13 H =>
 q' (asliceR .str (.str (bs [48, 49, 50, 51, 52, 53, 54, 55, 56, 57])) (some (fr 0)) (some v13) none) H ⟨fun v14 H =>
 e' [(2, v14)] H⟩⟩)
@[simp] def r5 (s0 : SpecP) (fr : AFr) (H : AHeap) : ARes :=
 areg (q' (bn' .quo (fr 0) (.int .i64 10)) H ⟨fun v16 H =>
 o' (callP false s0 [[none]] [v16] H) ⟨fun v17 H =>
 q' (bn' .rem (fr 0) (.int .i64 10)) H ⟨fun v19 H =>
 o' (callP false s0 [[none]] [v19] H) ⟨fun v20 H =>
 q' (abinR .t .add v17 v20) H ⟨fun v21 H =>
 e' [(2, v21)] H⟩⟩⟩⟩⟩)
@[simp] def body (s0 : SpecP) (fr : AFr) (H : AHeap) : ARes :=
  s' (r0 fr H) ⟨fun fr H =>
 s' (s' (r1 fr H) ⟨fun fr H =>
 c' (fr 4)
 ⟨s' (r2 s0 fr H) ⟨fun fr H =>
 some (.ret, fr, H)⟩⟩
 ⟨some (.normal, fr, H)⟩⟩) ⟨fun fr H =>
 s' (s' (r3 fr H) ⟨fun fr H =>
 c' (fr 10)
 ⟨s' (r4 fr H) ⟨fun fr H =>
 some (.ret, fr, H)⟩⟩
 ⟨some (.normal, fr, H)⟩⟩) ⟨fun fr H =>
 s' (r5 s0 fr H) ⟨fun fr H =>
 some (.ret, fr, H)⟩⟩⟩⟩
@[simp] def res (fr : AFr) (H : AHeap) : Option (List AV) := res2 (some (fr 2)) (some [])
end ref04_Num
def ref04_Num.step (s : SpecP) : List AV → Option AV
  | [a0] => closeUpR (some [[none]]) (afinR ref04_Num.res (ref04_Num.body s (args0 [a0]) AHeap.empty))
  | _ => none
def ref04_Num.fuel : Nat → SpecP
  | 0 => fun _ => none
  | k + 1 => ref04_Num.step (ref04_Num.fuel k)
def ref04_Num.spec : SpecP := ref04_Num.fuel 64
namespace ref04_reg
def C (s0 : SpecP) : Tab := (Tab.none.add 76 (.pure false s0))
@[simp] def r0 (fr : AFr) (H : AHeap) : ARes :=
 areg (e' [(0, fr 0)] H)
@[simp] def r1 (s0 : SpecP) (fr : AFr) (H : AHeap) : ARes :=
 areg (o' (callP false s0 [[none]] [(fr 0)] H) ⟨fun v4 H =>
 q' (abinR .t .add (.str (bs [114])) v4) H ⟨fun v5 H =>
 e' [(2, v5)] H⟩⟩)
@[simp] def body (s0 : SpecP) (fr : AFr) (H : AHeap) : ARes :=
  s' (r0 fr H) ⟨fun fr H =>
 s' (r1 s0 fr H) ⟨fun fr H =>
 some (.ret, fr, H)⟩⟩
@[simp] def res (fr : AFr) (H : AHeap) : Option (List AV) := res2 (some (fr 2)) (some [])
end ref04_reg
def ref04_reg (a0 : AV) : Option AV := closeUpR (some [[none]]) (afinR ref04_reg.res (ref04_reg.body ref04_Num.spec (args0 [a0]) AHeap.empty))
def ref04_reg.spec : List AV → Option AV
  | [a0] => ref04_reg a0
  | _ => none
namespace ref04_imm
def C (s0 : SpecP) : Tab := (Tab.none.add 76 (.pure false s0))
@[simp] def r0 (fr : AFr) (H : AHeap) : ARes :=
 areg (e' [(0, fr 0)] H)
@[simp] def r1 (s0 : SpecP) (fr : AFr) (H : AHeap) : ARes :=
 areg (o' (callP false s0 [[none]] [(fr 0)] H) ⟨fun v4 H =>
 q' (abinR .t .add (.str (bs [35])) v4) H ⟨fun v5 H =>
 e' [(2, v5)] H⟩⟩)
@[simp] def body (s0 : SpecP) (fr : AFr) (H : AHeap) : ARes :=
  s' (r0 fr H) ⟨fun fr H =>
 s' (r1 s0 fr H) ⟨fun fr H =>
 some (.ret, fr, H)⟩⟩
@[simp] def res (fr : AFr) (H : AHeap) : Option (List AV) := res2 (some (fr 2)) (some [])
end ref04_imm
def ref04_imm (a0 : AV) : Option AV := closeUpR (some [[none]]) (afinR ref04_imm.res (ref04_imm.body ref04_Num.spec (args0 [a0]) AHeap.empty))
def ref04_imm.spec : List AV → Option AV
  | [a0] => ref04_imm a0
  | _ => none
namespace ref04_Show
def C (s0 s1 s2 : SpecP) : Tab := (((Tab.none.add 60 (.pure false s0)).add 119 (.pure false s1)).add 120 (.pure false s2))
@[simp] def r0 (fr : AFr) (H : AHeap) : ARes :=
 areg (o' (abox T.ty_api_Ins (fr 0) H) ⟨fun v1 H =>
 e' [(1, v1)] H⟩)
@[simp] def r1 (s0 : SpecP) (fr : AFr) (H : AHeap) : ARes :=
 areg (q' (Ld' 5 (fr 1) H) H ⟨fun v6 H =>
 o' (callP false s0 [[none, none, none, none, none]] [v6] H) ⟨fun v7 H =>
 q' (aun .not v7) H ⟨fun v8 H =>
 e' [(1, fr 1), (8, v8)] H⟩⟩⟩)
@[simp] def r2 (fr : AFr) (H : AHeap) : ARes :=
 areg (e' [(2, (.str (bs []))), (3, (.bool false))] H)
@[simp] def r3 (s1 : SpecP) (fr : AFr) (H : AHeap) : ARes :=
 areg (q' (fa' 1 (fr 1)) H ⟨fun v9 H =>
 q' (ld' v9 H) H ⟨fun v10 H =>
 o' (callP false s1 [[none]] [v10] H) ⟨fun v11 H =>
 q' (abinR .t .add v11 (.str (bs [44, 32]))) H ⟨fun v12 H =>
 e' [(1, fr 1), (4, v12)] H⟩⟩⟩⟩)
@[simp] def r4 (fr : AFr) (H : AHeap) : ARes :=
 areg (q' (fa' 0 (fr 1)) H ⟨fun v13 H =>
 q' (ld' v13 H) H ⟨fun v14 H =>
 e' [(1, fr 1), (4, fr 4), (5, v14)] H⟩⟩)
@[simp] def r5 (fr : AFr) (H : AHeap) : ARes :=
 areg (q' (bn' .lss (fr 5) (.int .i64 4)) H ⟨fun v17 H =>
 e' [(1, fr 1), (4, fr 4), (5, fr 5), (15, v17)] H⟩)
@[simp] def r6 (s2 : SpecP) (fr : AFr) (H : AHeap) : ARes :=
 areg (o' (abuildSliceR (some ⟨T.ty_string, 1, 16, [(.str (bs []))]⟩) 4 [(0, (.str (bs [109, 111, 118, 115, 32]))), (1, (.str (bs [99, 109, 112, 32]))), (2, (.str (bs [97, 100, 100, 115, 32]))), (3, (.str (bs [115, 117, 98, 115, 32])))] H) ⟨fun v18 H1 =>
 q' (some (fr 5)) H1 ⟨fun v19 H2 =>
 q' (aindexAddrR (.sl 1) v18 v19) H2 ⟨fun v20 H3 =>
 q' (ld' v20 H3) H3 ⟨fun v21 H4 =>
 q' (some (fr 4)) H4 ⟨fun v22 H5 =>
 q' (abinR .t .add v21 v22) H5 ⟨fun v23 H6 =>
 q' (fa' 4 (fr 1)) H6 ⟨fun v24 H7 =>
 q' (ld' v24 H7) H7 ⟨fun v25 H8 =>
 o' (callP false s2 [[none]] [v25] H8) ⟨fun v26 H9 =>
 q' (abinR .t .add v23 v26) H9 ⟨fun v27 H10 =>
 q' (some v27) H10 ⟨fun v2 H11 =>
 q' (some (.bool true)) H11 ⟨fun v3 H12 =>
 withChk [aloadR (some none) v20 H8 = aloadR (some none) v20 H9] (e' [(2, v2), (3, v3)] H12)⟩⟩⟩⟩⟩⟩⟩⟩⟩⟩⟩⟩)
@[simp] def r7 (fr : AFr) (H : AHeap) : ARes :=
 areg (q' (bn' .lss (fr 5) (.int .i64 7)) H ⟨fun v30 H =>
 e' [(1, fr 1), (4, fr 4), (5, fr 5), (28, v30)] H⟩)
@[simp] def r8 (s1 s2 : SpecP) (fr : AFr) (H : AHeap) : ARes :=
 areg (o' (abuildSliceR (some ⟨T.ty_string, 1, 16, [(.str (bs []))]⟩) 3 [(0, (.str (bs [108, 115, 108, 115, 32]))), (1, (.str (bs [108, 115, 114, 115, 32]))), (2, (.str (bs [97, 115, 114, 115, 32])))] H) ⟨fun v31 H1 =>
 q' (some (fr 5)) H1 ⟨fun v32 H2 =>
 q' (bn' .sub v32 (.int .i64 4)) H2 ⟨fun v33 H3 =>
 q' (aindexAddrR (.sl 1) v31 v33) H3 ⟨fun v34 H4 =>
 q' (ld' v34 H4) H4 ⟨fun v35 H5 =>
 q' (some (fr 4)) H5 ⟨fun v36 H6 =>
 q' (abinR .t .add v35 v36) H6 ⟨fun v37 H7 =>
 q' (fa' 3 (fr 1)) H7 ⟨fun v38 H8 =>
 q' (ld' v38 H8) H8 ⟨fun v39 H9 =>
 o' (callP false s1 [[none]] [v39] H9) ⟨fun v40 H10 =>
 q' (abinR .t .add v37 v40) H10 ⟨fun v41 H11 =>
 q' (abinR .t .add v41 (.str (bs [44, 32]))) H11 ⟨fun v42 H12 =>
 q' (fa' 4 (fr 1)) H12 ⟨fun v43 H13 =>
 q' (ld' v43 H13) H13 ⟨fun v44 H14 =>
 o' (callP false s2 [[none]] [v44] H14) ⟨fun v45 H15 =>
 q' (abinR .t .add v42 v45) H15 ⟨fun v46 H16 =>
 q' (some v46) H16 ⟨fun v2 H17 =>
 q' (some (.bool true)) H17 ⟨fun v3 H18 =>
 withChk [aloadR (some none) v34 H9 = aloadR (some none) v34 H10, aloadR (some none) v34 H14 = aloadR (some none) v34 H15, aloadR (some none) v43 H9 = aloadR (some none) v43 H10] (e' [(2, v2), (3, v3)] H18)⟩⟩⟩⟩⟩⟩⟩⟩⟩⟩⟩⟩⟩⟩⟩⟩⟩⟩)
@[simp] def r9 (fr : AFr) (H : AHeap) : ARes :=
 areg (q' (bn' .lss (fr 5) (.int .i64 9)) H ⟨fun v49 H =>
 e' [(1, fr 1), (4, fr 4), (5, fr 5), (47, v49)] H⟩)
@[simp] def r10 (s1 : SpecP) (fr : AFr) (H : AHeap) : ARes :=
 areg (o' (abuildSliceR (some ⟨T.ty_string, 1, 16, [(.str (bs []))]⟩) 2 [(0, (.str (bs [97, 100, 100, 115, 32]))), (1, (.str (bs [115, 117, 98, 115, 32])))] H) ⟨fun v50 H1 =>
 q' (some (fr 5)) H1 ⟨fun v51 H2 =>
 q' (bn' .sub v51 (.int .i64 7)) H2 ⟨fun v52 H3 =>
 q' (aindexAddrR (.sl 1) v50 v52) H3 ⟨fun v53 H4 =>
 q' (ld' v53 H4) H4 ⟨fun v54 H5 =>
 q' (some (fr 4)) H5 ⟨fun v55 H6 =>
 q' (abinR .t .add v54 v55) H6 ⟨fun v56 H7 =>
 q' (fa' 2 (fr 1)) H7 ⟨fun v57 H8 =>
 q' (ld' v57 H8) H8 ⟨fun v58 H9 =>
 o' (callP false s1 [[none]] [v58] H9) ⟨fun v59 H10 =>
 q' (abinR .t .add v56 v59) H10 ⟨fun v60 H11 =>
 q' (abinR .t .add v60 (.str (bs [44, 32]))) H11 ⟨fun v61 H12 =>
 q' (fa' 3 (fr 1)) H12 ⟨fun v62 H13 =>
 q' (ld' v62 H13) H13 ⟨fun v63 H14 =>
 o' (callP false s1 [[none]] [v63] H14) ⟨fun v64 H15 =>
 q' (abinR .t .add v61 v64) H15 ⟨fun v65 H16 =>
 q' (some v65) H16 ⟨fun v2 H17 =>
 q' (some (.bool true)) H17 ⟨fun v3 H18 =>
 withChk [aloadR (some none) v53 H9 = aloadR (some none) v53 H10, aloadR (some none) v53 H14 = aloadR (some none) v53 H15, aloadR (some none) v62 H9 = aloadR (some none) v62 H10] (e' [(2, v2), (3, v3)] H18)⟩⟩⟩⟩⟩⟩⟩⟩⟩⟩⟩⟩⟩⟩⟩⟩⟩⟩)
@[simp] def r11 (fr : AFr) (H : AHeap) : ARes :=
 areg (q' (bn' .lss (fr 5) (.int .i64 11)) H ⟨fun v68 H =>
 e' [(1, fr 1), (4, fr 4), (5, fr 5), (66, v68)] H⟩)
@[simp] def r12 (s1 s2 : SpecP) (fr : AFr) (H : AHeap) : ARes :=
 areg (o' (abuildSliceR (some ⟨T.ty_string, 1, 16, [(.str (bs []))]⟩) 2 [(0, (.str (bs [97, 100, 100, 115, 32]))), (1, (.str (bs [115, 117, 98, 115, 32])))] H) ⟨fun v69 H1 =>
 q' (some (fr 5)) H1 ⟨fun v70 H2 =>
 q' (bn' .sub v70 (.int .i64 9)) H2 ⟨fun v71 H3 =>
 q' (aindexAddrR (.sl 1) v69 v71) H3 ⟨fun v72 H4 =>
 q' (ld' v72 H4) H4 ⟨fun v73 H5 =>
 q' (some (fr 4)) H5 ⟨fun v74 H6 =>
 q' (abinR .t .add v73 v74) H6 ⟨fun v75 H7 =>
 q' (fa' 2 (fr 1)) H7 ⟨fun v76 H8 =>
 q' (ld' v76 H8) H8 ⟨fun v77 H9 =>
 o' (callP false s1 [[none]] [v77] H9) ⟨fun v78 H10 =>
 q' (abinR .t .add v75 v78) H10 ⟨fun v79 H11 =>
 q' (abinR .t .add v79 (.str (bs [44, 32]))) H11 ⟨fun v80 H12 =>
 q' (fa' 4 (fr 1)) H12 ⟨fun v81 H13 =>
 q' (ld' v81 H13) H13 ⟨fun v82 H14 =>
 o' (callP false s2 [[none]] [v82] H14) ⟨fun v83 H15 =>
 q' (abinR .t .add v80 v83) H15 ⟨fun v84 H16 =>
 q' (some v84) H16 ⟨fun v2 H17 =>
 q' (some (.bool true)) H17 ⟨fun v3 H18 =>
 withChk [aloadR (some none) v72 H9 = aloadR (some none) v72 H10, aloadR (some none) v72 H14 = aloadR (some none) v72 H15, aloadR (some none) v81 H9 = aloadR (some none) v81 H10] (e' [(2, v2), (3, v3)] H18)⟩⟩⟩⟩⟩⟩⟩⟩⟩⟩⟩⟩⟩⟩⟩⟩⟩⟩)
@[simp] def r13 (fr : AFr) (H : AHeap) : ARes :=
 areg (q' (bn' .eql (fr 5) (.int .i64 11)) H ⟨fun v87 H =>
 e' [(1, fr 1), (4, fr 4), (5, fr 5), (85, v87)] H⟩)
@[simp] def r14 (s1 : SpecP) (fr : AFr) (H : AHeap) : ARes :=
 areg (o' (abuildSliceR (some ⟨T.ty_string, 1, 16, [(.str (bs []))]⟩) 16 [(0, (.str (bs [97, 110, 100, 115]))), (1, (.str (bs [101, 111, 114, 115]))), (2, (.str (bs [108, 115, 108, 115]))), (3, (.str (bs [108, 115, 114, 115]))), (4, (.str (bs [97, 115, 114, 115]))), (5, (.str (bs [97, 100, 99, 115]))), (6, (.str (bs [115, 98, 99, 115]))), (7, (.str (bs [114, 111, 114, 115]))), (8, (.str (bs [116, 115, 116]))), (9, (.str (bs [114, 115, 98, 115]))), (10, (.str (bs [99, 109, 112]))), (11, (.str (bs [99, 109, 110]))), (12, (.str (bs [111, 114, 114, 115]))), (13, (.str (bs [109, 117, 108, 115]))), (14, (.str (bs [98, 105, 99, 115]))), (15, (.str (bs [109, 118, 110, 115])))] H) ⟨fun v88 H1 =>
 q' (fa' 4 (fr 1)) H1 ⟨fun v89 H2 =>
 q' (ld' v89 H2) H2 ⟨fun v90 H3 =>
 q' (aindexAddrR (.sl 1) v88 v90) H3 ⟨fun v91 H4 =>
 q' (ld' v91 H4) H4 ⟨fun v92 H5 =>
 q' (abinR .t .add v92 (.str (bs [32]))) H5 ⟨fun v93 H6 =>
 q' (some (fr 4)) H6 ⟨fun v94 H7 =>
 q' (abinR .t .add v93 v94) H7 ⟨fun v95 H8 =>
 q' (fa' 3 (fr 1)) H8 ⟨fun v96 H9 =>
 q' (ld' v96 H9) H9 ⟨fun v97 H10 =>
 o' (callP false s1 [[none]] [v97] H10) ⟨fun v98 H11 =>
 q' (abinR .t .add v95 v98) H11 ⟨fun v99 H12 =>
 q' (some v99) H12 ⟨fun v2 H13 =>
 q' (some (.bool true)) H13 ⟨fun v3 H14 =>
 withChk [aloadR (some none) v89 H10 = aloadR (some none) v89 H11, aloadR (some none) v91 H10 = aloadR (some none) v91 H11] (e' [(2, v2), (3, v3)] H14)⟩⟩⟩⟩⟩⟩⟩⟩⟩⟩⟩⟩⟩⟩)
@[simp] def r15 (fr : AFr) (H : AHeap) : ARes :=
 areg (q' (bn' .lss (fr 5) (.int .i64 14)) H ⟨fun v102 H =>
 e' [(1, fr 1), (4, fr 4), (5, fr 5), (100, v102)] H⟩)
@[simp] def r16 (s1 s2 : SpecP) (fr : AFr) (H : AHeap) : ARes :=
 areg (o' (abuildSliceR (some ⟨T.ty_string, 1, 16, [(.str (bs []))]⟩) 2 [(0, (.str (bs [108, 100, 114, 32]))), (1, (.str (bs [115, 116, 114, 32])))] H) ⟨fun v103 H1 =>
 q' (some (fr 5)) H1 ⟨fun v104 H2 =>
 q' (bn' .sub v104 (.int .i64 12)) H2 ⟨fun v105 H3 =>
 q' (aindexAddrR (.sl 1) v103 v105) H3 ⟨fun v106 H4 =>
 q' (ld' v106 H4) H4 ⟨fun v107 H5 =>
 q' (some (fr 4)) H5 ⟨fun v108 H6 =>
 q' (abinR .t .add v107 v108) H6 ⟨fun v109 H7 =>
 q' (abinR .t .add v109 (.str (bs [91]))) H7 ⟨fun v110 H8 =>
 q' (fa' 2 (fr 1)) H8 ⟨fun v111 H9 =>
 q' (ld' v111 H9) H9 ⟨fun v112 H10 =>
 o' (callP false s1 [[none]] [v112] H10) ⟨fun v113 H11 =>
 q' (abinR .t .add v110 v113) H11 ⟨fun v114 H12 =>
 q' (abinR .t .add v114 (.str (bs [44, 32]))) H12 ⟨fun v115 H13 =>
 q' (fa' 4 (fr 1)) H13 ⟨fun v116 H14 =>
 q' (ld' v116 H14) H14 ⟨fun v117 H15 =>
 q' (bn' .mul (.int .i64 4) v117) H15 ⟨fun v118 H16 =>
 o' (callP false s2 [[none]] [v118] H16) ⟨fun v119 H17 =>
 q' (abinR .t .add v115 v119) H17 ⟨fun v120 H18 =>
 q' (abinR .t .add v120 (.str (bs [93]))) H18 ⟨fun v121 H19 =>
 q' (some v121) H19 ⟨fun v2 H20 =>
 q' (some (.bool true)) H20 ⟨fun v3 H21 =>
 withChk [aloadR (some none) v106 H10 = aloadR (some none) v106 H11, aloadR (some none) v106 H16 = aloadR (some none) v106 H17, aloadR (some none) v116 H10 = aloadR (some none) v116 H11] (e' [(2, v2), (3, v3)] H21)⟩⟩⟩⟩⟩⟩⟩⟩⟩⟩⟩⟩⟩⟩⟩⟩⟩⟩⟩⟩⟩)
@[simp] def r17 (fr : AFr) (H : AHeap) : ARes :=
 areg (q' (bn' .lss (fr 5) (.int .i64 16)) H ⟨fun v124 H =>
 e' [(1, fr 1), (4, fr 4), (5, fr 5), (122, v124)] H⟩)
@[simp] def r18 (s1 : SpecP) (fr : AFr) (H : AHeap) : ARes :=
 areg (o' (abuildSliceR (some ⟨T.ty_string, 1, 16, [(.str (bs []))]⟩) 2 [(0, (.str (bs [108, 100, 114, 32]))), (1, (.str (bs [115, 116, 114, 32])))] H) ⟨fun v125 H1 =>
 q' (some (fr 5)) H1 ⟨fun v126 H2 =>
 q' (bn' .sub v126 (.int .i64 14)) H2 ⟨fun v127 H3 =>
 q' (aindexAddrR (.sl 1) v125 v127) H3 ⟨fun v128 H4 =>
 q' (ld' v128 H4) H4 ⟨fun v129 H5 =>
 q' (some (fr 4)) H5 ⟨fun v130 H6 =>
 q' (abinR .t .add v129 v130) H6 ⟨fun v131 H7 =>
 q' (abinR .t .add v131 (.str (bs [91]))) H7 ⟨fun v132 H8 =>
 q' (fa' 2 (fr 1)) H8 ⟨fun v133 H9 =>
 q' (ld' v133 H9) H9 ⟨fun v134 H10 =>
 o' (callP false s1 [[none]] [v134] H10) ⟨fun v135 H11 =>
 q' (abinR .t .add v132 v135) H11 ⟨fun v136 H12 =>
 q' (abinR .t .add v136 (.str (bs [44, 32]))) H12 ⟨fun v137 H13 =>
 q' (fa' 3 (fr 1)) H13 ⟨fun v138 H14 =>
 q' (ld' v138 H14) H14 ⟨fun v139 H15 =>
 o' (callP false s1 [[none]] [v139] H15) ⟨fun v140 H16 =>
 q' (abinR .t .add v137 v140) H16 ⟨fun v141 H17 =>
 q' (abinR .t .add v141 (.str (bs [93]))) H17 ⟨fun v142 H18 =>
 q' (some v142) H18 ⟨fun v2 H19 =>
 q' (some (.bool true)) H19 ⟨fun v3 H20 =>
 withChk [aloadR (some none) v128 H10 = aloadR (some none) v128 H11, aloadR (some none) v128 H15 = aloadR (some none) v128 H16, aloadR (some none) v138 H10 = aloadR (some none) v138 H11] (e' [(2, v2), (3, v3)] H20)⟩⟩⟩⟩⟩⟩⟩⟩⟩⟩⟩⟩⟩⟩⟩⟩⟩⟩⟩⟩)
@[simp] def r19 (fr : AFr) (H : AHeap) : ARes :=
 areg (q' (bn' .eql (fr 5) (.int .i64 16)) H ⟨fun v145 H =>
 e' [(1, fr 1), (4, fr 4), (5, fr 5), (143, v145)] H⟩)
@[simp] def r20 (s2 : SpecP) (fr : AFr) (H : AHeap) : ARes :=
 areg (q' (abinR .t .add (.str (bs [108, 100, 114, 32])) (fr 4)) H ⟨fun v147 H =>
 q' (abinR .t .add v147 (.str (bs [91, 112, 99, 44, 32]))) H ⟨fun v148 H =>
 q' (fa' 4 (fr 1)) H ⟨fun v149 H =>
 q' (ld' v149 H) H ⟨fun v150 H =>
 q' (bn' .mul (.int .i64 4) v150) H ⟨fun v151 H =>
 o' (callP false s2 [[none]] [v151] H) ⟨fun v152 H =>
 q' (abinR .t .add v148 v152) H ⟨fun v153 H =>
 q' (abinR .t .add v153 (.str (bs [93]))) H ⟨fun v154 H =>
 e' [(2, v154), (3, (.bool true))] H⟩⟩⟩⟩⟩⟩⟩⟩)
@[simp] def r21 (fr : AFr) (H : AHeap) : ARes :=
 areg (q' (bn' .eql (fr 5) (.int .i64 17)) H ⟨fun v157 H =>
 e' [(1, fr 1), (5, fr 5), (155, v157)] H⟩)
@[simp] def r22 (s2 : SpecP) (fr : AFr) (H : AHeap) : ARes :=
 areg (q' (fa' 4 (fr 1)) H ⟨fun v158 H =>
 q' (ld' v158 H) H ⟨fun v159 H =>
 q' (bn' .mul (.int .i64 2) v159) H ⟨fun v160 H =>
 o' (callP false s2 [[none]] [v160] H) ⟨fun v161 H =>
 q' (abinR .t .add (.str (bs [98, 32])) v161) H ⟨fun v162 H =>
 e' [(2, v162), (3, (.bool true))] H⟩⟩⟩⟩⟩)
@[simp] def r23 (fr : AFr) (H : AHeap) : ARes :=
 areg (q' (bn' .eql (fr 5) (.int .i64 18)) H ⟨fun v165 H =>
 e' [(1, fr 1), (5, fr 5), (163, v165)] H⟩)
@[simp] def r24 (s2 : SpecP) (fr : AFr) (H : AHeap) : ARes :=
 areg (o' (abuildSliceR (some ⟨T.ty_string, 1, 16, [(.str (bs []))]⟩) 14 [(0, (.str (bs [98, 101, 113]))), (1, (.str (bs [98, 110, 101]))), (2, (.str (bs [98, 99, 115]))), (3, (.str (bs [98, 99, 99]))), (4, (.str (bs [98, 109, 105]))), (5, (.str (bs [98, 112, 108]))), (6, (.str (bs [98, 118, 115]))), (7, (.str (bs [98, 118, 99]))), (8, (.str (bs [98, 104, 105]))), (9, (.str (bs [98, 108, 115]))), (10, (.str (bs [98, 103, 101]))), (11, (.str (bs [98, 108, 116]))), (12, (.str (bs [98, 103, 116]))), (13, (.str (bs [98, 108, 101])))] H) ⟨fun v166 H1 =>
 q' (fa' 1 (fr 1)) H1 ⟨fun v167 H2 =>
 q' (ld' v167 H2) H2 ⟨fun v168 H3 =>
 q' (aindexAddrR (.sl 1) v166 v168) H3 ⟨fun v169 H4 =>
 q' (ld' v169 H4) H4 ⟨fun v170 H5 =>
 q' (abinR .t .add v170 (.str (bs [32]))) H5 ⟨fun v171 H6 =>
 q' (fa' 4 (fr 1)) H6 ⟨fun v172 H7 =>
 q' (ld' v172 H7) H7 ⟨fun v173 H8 =>
 q' (bn' .mul (.int .i64 2) v173) H8 ⟨fun v174 H9 =>
 o' (callP false s2 [[none]] [v174] H9) ⟨fun v175 H10 =>
 q' (abinR .t .add v171 v175) H10 ⟨fun v176 H11 =>
 q' (some v176) H11 ⟨fun v2 H12 =>
 q' (some (.bool true)) H12 ⟨fun v3 H13 =>
 withChk [aloadR (some none) v167 H9 = aloadR (some none) v167 H10, aloadR (some none) v169 H9 = aloadR (some none) v169 H10] (e' [(2, v2), (3, v3)] H13)⟩⟩⟩⟩⟩⟩⟩⟩⟩⟩⟩⟩⟩)
@[simp] def r25 (fr : AFr) (H : AHeap) : ARes :=
 areg (q' (bn' .eql (fr 5) (.int .i64 19)) H ⟨fun v179 H =>
 e' [(1, fr 1), (177, v179)] H⟩)
@[simp] def r26 (fr : AFr) (H : AHeap) : ARes :=
 areg (e' [(2, (.str (bs [110, 111, 112]))), (3, (.bool true))] H)
@[simp] def r27 (s2 : SpecP) (fr : AFr) (H : AHeap) : ARes :=
 areg (q' (fa' 4 (fr 1)) H ⟨fun v180 H =>
 q' (ld' v180 H) H ⟨fun v181 H =>
 o' (callP false s2 [[none]] [v181] H) ⟨fun v182 H =>
 q' (abinR .t .add (.str (bs [98, 107, 112, 116, 32])) v182) H ⟨fun v183 H =>
 e' [(2, v183), (3, (.bool true))] H⟩⟩⟩⟩)
@[simp] def body (s0 s1 s2 : SpecP) (fr : AFr) (H : AHeap) : ARes :=
  s' (r0 fr H) ⟨fun fr H =>
 s' (s' (r1 s0 fr H) ⟨fun fr H =>
 c' (fr 8)
 ⟨s' (r2 fr H) ⟨fun fr H =>
 some (.ret, fr, H)⟩⟩
 ⟨some (.normal, fr, H)⟩⟩) ⟨fun fr H =>
 s' (r3 s1 fr H) ⟨fun fr H =>
 s' (r4 fr H) ⟨fun fr H =>
 s' (aexit 0 (s' (r5 fr H) ⟨fun fr H =>
 c' (fr 15)
 ⟨s' (r6 s2 fr H) ⟨fun fr H =>
 some (.ret, fr, H)⟩⟩
 ⟨s' (r7 fr H) ⟨fun fr H =>
 c' (fr 28)
 ⟨s' (r8 s1 s2 fr H) ⟨fun fr H =>
 some (.ret, fr, H)⟩⟩
 ⟨s' (r9 fr H) ⟨fun fr H =>
 c' (fr 47)
 ⟨s' (r10 s1 fr H) ⟨fun fr H =>
 some (.ret, fr, H)⟩⟩
 ⟨s' (r11 fr H) ⟨fun fr H =>
 c' (fr 66)
 ⟨s' (r12 s1 s2 fr H) ⟨fun fr H =>
 some (.ret, fr, H)⟩⟩
 ⟨s' (r13 fr H) ⟨fun fr H =>
 c' (fr 85)
 ⟨s' (r14 s1 fr H) ⟨fun fr H =>
 some (.ret, fr, H)⟩⟩
 ⟨s' (r15 fr H) ⟨fun fr H =>
 c' (fr 100)
 ⟨s' (r16 s1 s2 fr H) ⟨fun fr H =>
 some (.ret, fr, H)⟩⟩
 ⟨s' (r17 fr H) ⟨fun fr H =>
 c' (fr 122)
 ⟨s' (r18 s1 fr H) ⟨fun fr H =>
 some (.ret, fr, H)⟩⟩
 ⟨s' (r19 fr H) ⟨fun fr H =>
 c' (fr 143)
 ⟨s' (r20 s2 fr H) ⟨fun fr H =>
 some (.ret, fr, H)⟩⟩
 ⟨s' (r21 fr H) ⟨fun fr H =>
 c' (fr 155)
 ⟨s' (r22 s2 fr H) ⟨fun fr H =>
 some (.ret, fr, H)⟩⟩
 ⟨s' (r23 fr H) ⟨fun fr H =>
 c' (fr 163)
 ⟨s' (r24 s2 fr H) ⟨fun fr H =>
 some (.ret, fr, H)⟩⟩
 ⟨s' (r25 fr H) ⟨fun fr H =>
 c' (fr 177)
 ⟨s' (r26 fr H) ⟨fun fr H =>
 some (.ret, fr, H)⟩⟩
 ⟨some (.normal, fr, H)⟩⟩⟩⟩⟩⟩⟩⟩⟩⟩⟩⟩⟩⟩⟩⟩⟩⟩⟩⟩⟩⟩)) ⟨fun fr H =>
 s' (r27 s2 fr H) ⟨fun fr H =>
 some (.ret, fr, H)⟩⟩⟩⟩⟩⟩
@[simp] def res (fr : AFr) (H : AHeap) : Option (List AV) := res2 (some (fr 2)) (res2 (some (fr 3)) (some []))
end ref04_Show
def ref04_Show (a0 : AV) : Option AV := closeUpR (some [[none], [none]]) (afinR ref04_Show.res (ref04_Show.body ref02_Can.spec ref04_reg.spec ref04_imm.spec (args0 [a0]) AHeap.empty))
def ref04_Show.spec : List AV → Option AV
  | [a0] => ref04_Show a0
  | _ => none
namespace ref04_Line
def C (s0 s1 : SpecP) : Tab := ((Tab.none.add 83 (.pure false s0)).add 75 (.pure false s1))
@[simp] def r0 (fr : AFr) (H : AHeap) : ARes :=
 areg (e' [(0, fr 0)] H)
@[simp] def r1 (s0 : SpecP) (fr : AFr) (H : AHeap) : ARes :=
 areg (o' (callP false s0 [[none]] [(fr 0)] H) ⟨fun v11 H =>
 q' (aextract v11 0) H ⟨fun v12 H =>
 q' (aextract v11 1) H ⟨fun v13 H =>
 o' (aallocR T.ty_api_Ins (some (.agg [(.int .i64 0), (.int .i64 0), (.int .i64 0), (.int .i64 0), (.int .i64 0)])) H) ⟨fun v3 H =>
 w' (astoreR (some 5) v3 v12 H) ⟨fun _ H =>
 e' [(0, fr 0), (3, v3), (4, v13)] H⟩⟩⟩⟩⟩)
@[simp] def r2 (fr : AFr) (H : AHeap) : ARes :=
 areg (q' (bn' .eql (fr 4) (.int .i64 0)) H ⟨fun v15 H =>
 e' [(0, fr 0), (3, fr 3), (15, v15)] H⟩)
@[simp] def r3 (s1 : SpecP) (fr : AFr) (H : AHeap) : ARes :=
 areg (q' (Ld' 5 (fr 3) H) H ⟨fun v17 H =>
 o' (callP false s1 [[none, none, none, none, none]] [v17] H) ⟨fun v18 H =>
 q' (aextract v18 0) H ⟨fun v19 H =>
 q' (aextract v18 1) H ⟨fun v20 H =>
 e' [(5, v19)] H⟩⟩⟩⟩)
@[simp] def r4 (fr : AFr) (H : AHeap) : ARes :=
 areg (e' [(2, (fr 5))] H)
@[simp] def r5 (fr : AFr) (H : AHeap) : ARes :=
 areg (e' [(0, fr 0), (7, (.str (bs [])))] H)
@[simp] def r6 (fr : AFr) (H : AHeap) : ARes :=
 areg (e' [(0, fr 0), (7, fr 7), (8, (.int .i64 0))] H)
@[simp] def r7 (fr : AFr) (H : AHeap) : ARes :=
 areg (q' (bn' .lss (fr 8) (.int .i64 4)) H ⟨fun v23 H =>
 e' [(0, fr 0), (7, fr 7), (8, fr 8), (23, v23)] H⟩)
@[simp] def r9 (fr : AFr) (H : AHeap) : ARes :=
 areg (q' (bn' .rem (fr 0) (W16 16#16)) H ⟨fun v27 H =>
 q' (bn' .rem (fr 0) (W16 16#16)) H ⟨fun v29 H =>
 q' (bn' .add v29 (W16 1#16)) H ⟨fun v30 H =>
 q' (asliceR .str (.str (bs [48, 49, 50, 51, 52, 53, 54, 55, 56, 57, 97, 98, 99, 100, 101, 102])) (some v27) (some v30) none) H ⟨fun v31 H =>
 q' (abinR .t .add v31 (fr 7)) H ⟨fun v33 H =>
 e' [(0, fr 0), (7, v33), (8, fr 8)] H⟩⟩⟩⟩⟩)
@[simp] def r10 (fr : AFr) (H : AHeap) : ARes :=
 areg (q' (bn' .quo (fr 0) (W16 16#16)) H ⟨fun v35 H =>
 e' [(0, v35), (7, fr 7), (8, fr 8)] H⟩)
@[simp] def r8 (fr : AFr) (H : AHeap) : ARes :=
 areg (q' (bn' .add (fr 8) (.int .i64 1)) H ⟨fun v25 H =>
 e' [(0, fr 0), (7, fr 7), (8, v25)] H⟩)
@[simp] def r11 (fr : AFr) (H : AHeap) : ARes :=
 areg (q' (abinR .t .add (.str (bs [63])) (fr 7)) H ⟨fun v37 H =>
 e' [(2, v37)] H⟩)
def l0 (s0 s1 : SpecP) (fr : AFr) (H : AHeap) : ARes :=
  s' (s' (r7 fr H) ⟨fun fr H =>
 c' (fr 23)
 ⟨some (.normal, fr, H)⟩
 ⟨some (.exit 0, fr, H)⟩⟩) ⟨fun fr H =>
 s' (aexit 1 (s' (r9 fr H) ⟨fun fr H =>
 r10 fr H⟩)) ⟨fun fr H =>
 r8 fr H⟩⟩
@[simp] def body (s0 s1 : SpecP) (fr : AFr) (H : AHeap) : ARes :=
  s' (r0 fr H) ⟨fun fr H =>
 s' (s' (r1 s0 fr H) ⟨fun fr H =>
 s' (r2 fr H) ⟨fun fr H =>
 c' (fr 15)
 ⟨s' (r3 s1 fr H) ⟨fun fr H =>
 s' (r4 fr H) ⟨fun fr H =>
 some (.ret, fr, H)⟩⟩⟩
 ⟨some (.normal, fr, H)⟩⟩⟩) ⟨fun fr H =>
 s' (r5 fr H) ⟨fun fr H =>
 s' (s' (r6 fr H) ⟨fun fr H =>
  aexit 0 (aloop (l0 s0 s1) fr H)⟩) ⟨fun fr H =>
 s' (r11 fr H) ⟨fun fr H =>
 some (.ret, fr, H)⟩⟩⟩⟩⟩
@[simp] def res (fr : AFr) (H : AHeap) : Option (List AV) := res2 (some (fr 2)) (some [])
end ref04_Line
def ref04_Line (a0 : AV) : Option AV := closeUpR (some [[none]]) (afinR ref04_Line.res (ref04_Line.body ref02_Take.spec ref04_Show.spec (args0 [a0]) AHeap.empty))
def ref04_Line.spec : List AV → Option AV
  | [a0] => ref04_Line a0
  | _ => none
end
end Go.Abs
