/-
  The functions, as they are over abstract values. Printed by gen.py.
-/
import Derived.Test.YteohnepdbjmghaaZ4
import Derived.Test.YteohnepdbjmghaaZ5
set_option linter.unusedSimpArgs false
set_option linter.unusedVariables false
set_option maxHeartbeats 20000000
set_option maxRecDepth 100000
section
namespace Go.Abs
noncomputable section
namespace z_cj
def C (s0 : SpecP) : Tab := (Tab.none.add 76 (.pure false s0))
@[simp] def r0 (fr : AFr) (H : Hp) : ARes :=
 areg (e' [(0, fr 0)] H)
@[simp] def r1 (fr : AFr) (H : Hp) : ARes :=
 areg (q' (bn' .lss (fr 0) (.int .i64 0)) H ⟨fun v4 H =>
 e' [(0, fr 0), (4, v4)] H⟩)
@[simp] def r2 (s0 : SpecP) (fr : AFr) (H : Hp) : ARes :=
 areg (q' (aun .neg (fr 0)) H ⟨fun v6 H =>
 o' (callP false s0 [[none]] [v6] H) ⟨fun v7 H =>
 q' (abinR .t .add (.str (bs [45])) v7) H ⟨fun v8 H =>
 e' [(2, v8)] H⟩⟩⟩)
@[simp] def r3 (fr : AFr) (H : Hp) : ARes :=
 areg (q' (bn' .lss (fr 0) (.int .i64 10)) H ⟨fun v10 H =>
 e' [(0, fr 0), (10, v10)] H⟩)
@[simp] def r4 (fr : AFr) (H : Hp) : ARes :=
 areg (q' (bn' .add (fr 0) (.int .i64 1)) H ⟨fun v13 H =>
 q' (z_fy .str (.str (bs [48, 49, 50, 51, 52, 53, 54, 55, 56, 57])) (some (fr 0)) (some v13) none) H ⟨fun v14 H =>
 e' [(2, v14)] H⟩⟩)
@[simp] def r5 (s0 : SpecP) (fr : AFr) (H : Hp) : ARes :=
 areg (q' (bn' .quo (fr 0) (.int .i64 10)) H ⟨fun v16 H =>
 o' (callP false s0 [[none]] [v16] H) ⟨fun v17 H =>
 q' (bn' .rem (fr 0) (.int .i64 10)) H ⟨fun v19 H =>
 o' (callP false s0 [[none]] [v19] H) ⟨fun v20 H =>
 q' (abinR .t .add v17 v20) H ⟨fun v21 H =>
 e' [(2, v21)] H⟩⟩⟩⟩⟩)
@[simp] def body (s0 : SpecP) (fr : AFr) (H : Hp) : ARes :=
 s' (r0 fr H) ⟨fun fr H =>
 s' (s' (r1 fr H) ⟨fun fr H =>
 c' (fr 4)
 ⟨s' (r2 s0 fr H) ⟨fun fr H =>
 some (.ret, fr, H)⟩⟩
 ⟨some (.normal, fr, H)⟩⟩) ⟨fun fr H =>
 s' (s' (r3 fr H) ⟨fun fr H =>
 c' (fr 10)
 ⟨s' (r4 fr H) ⟨fun fr H =>
 some (.ret, fr, H)⟩⟩
 ⟨some (.normal, fr, H)⟩⟩) ⟨fun fr H =>
 s' (r5 s0 fr H) ⟨fun fr H =>
 some (.ret, fr, H)⟩⟩⟩⟩
@[simp] def res (fr : AFr) (H : Hp) : Option (List AV) := res2 (some (fr 2)) (some [])
end z_cj
def z_cj.step (s : SpecP) : List AV → Option AV
 | [a0] => z_ap (some [[none]]) (afinR z_cj.res (z_cj.body s (args0 [a0]) Hp.empty))
 | _ => none
def z_cj.fuel : Nat → SpecP
 | 0 => fun _ => none
 | k + 1 => z_cj.step (z_cj.fuel k)
def z_cj.spec : SpecP := z_cj.fuel 64
namespace z_c4
def C (s0 : SpecP) : Tab := (Tab.none.add 76 (.pure false s0))
@[simp] def r0 (fr : AFr) (H : Hp) : ARes :=
 areg (e' [(0, fr 0)] H)
@[simp] def r1 (s0 : SpecP) (fr : AFr) (H : Hp) : ARes :=
 areg (o' (callP false s0 [[none]] [(fr 0)] H) ⟨fun v4 H =>
 q' (abinR .t .add (.str (bs [114])) v4) H ⟨fun v5 H =>
 e' [(2, v5)] H⟩⟩)
@[simp] def body (s0 : SpecP) (fr : AFr) (H : Hp) : ARes :=
 s' (r0 fr H) ⟨fun fr H =>
 s' (r1 s0 fr H) ⟨fun fr H =>
 some (.ret, fr, H)⟩⟩
@[simp] def res (fr : AFr) (H : Hp) : Option (List AV) := res2 (some (fr 2)) (some [])
end z_c4
def z_c4 (a0 : AV) : Option AV := z_ap (some [[none]]) (afinR z_c4.res (z_c4.body z_cj.spec (args0 [a0]) Hp.empty))
def z_c4.spec : List AV → Option AV
 | [a0] => z_c4 a0
 | _ => none
namespace z_dt
def C (s0 : SpecP) : Tab := (Tab.none.add 76 (.pure false s0))
@[simp] def r0 (fr : AFr) (H : Hp) : ARes :=
 areg (e' [(0, fr 0)] H)
@[simp] def r1 (s0 : SpecP) (fr : AFr) (H : Hp) : ARes :=
 areg (o' (callP false s0 [[none]] [(fr 0)] H) ⟨fun v4 H =>
 q' (abinR .t .add (.str (bs [35])) v4) H ⟨fun v5 H =>
 e' [(2, v5)] H⟩⟩)
@[simp] def body (s0 : SpecP) (fr : AFr) (H : Hp) : ARes :=
 s' (r0 fr H) ⟨fun fr H =>
 s' (r1 s0 fr H) ⟨fun fr H =>
 some (.ret, fr, H)⟩⟩
@[simp] def res (fr : AFr) (H : Hp) : Option (List AV) := res2 (some (fr 2)) (some [])
end z_dt
def z_dt (a0 : AV) : Option AV := z_ap (some [[none]]) (afinR z_dt.res (z_dt.body z_cj.spec (args0 [a0]) Hp.empty))
def z_dt.spec : List AV → Option AV
 | [a0] => z_dt a0
 | _ => none
namespace z_bc
def C (s0 s1 s2 : SpecP) : Tab := (((Tab.none.add 60 (.pure false s0)).add 119 (.pure false s1)).add 120 (.pure false s2))
@[simp] def r0 (fr : AFr) (H : Hp) : ARes :=
 areg (o' (abox T.ty_api_Ins (fr 0) H) ⟨fun v1 H =>
 e' [(1, v1)] H⟩)
@[simp] def r1 (s0 : SpecP) (fr : AFr) (H : Hp) : ARes :=
 areg (q' (Ld' 5 (fr 1) H) H ⟨fun v6 H =>
 o' (callP false s0 [[none, none, none, none, none]] [v6] H) ⟨fun v7 H =>
 q' (aun .not v7) H ⟨fun v8 H =>
 e' [(1, fr 1), (8, v8)] H⟩⟩⟩)
@[simp] def r2 (fr : AFr) (H : Hp) : ARes :=
 areg (e' [(2, (.str (bs []))), (3, (.bool false))] H)
@[simp] def r3 (s1 : SpecP) (fr : AFr) (H : Hp) : ARes :=
 areg (q' (fa' 1 (fr 1)) H ⟨fun v9 H =>
 q' (ld' v9 H) H ⟨fun v10 H =>
 o' (callP false s1 [[none]] [v10] H) ⟨fun v11 H =>
 q' (abinR .t .add v11 (.str (bs [44, 32]))) H ⟨fun v12 H =>
 e' [(1, fr 1), (4, v12)] H⟩⟩⟩⟩)
@[simp] def r4 (fr : AFr) (H : Hp) : ARes :=
 areg (q' (fa' 0 (fr 1)) H ⟨fun v13 H =>
 q' (ld' v13 H) H ⟨fun v14 H =>
 e' [(1, fr 1), (4, fr 4), (5, v14)] H⟩⟩)
@[simp] def r5 (fr : AFr) (H : Hp) : ARes :=
 areg (q' (bn' .lss (fr 5) (.int .i64 4)) H ⟨fun v17 H =>
 e' [(1, fr 1), (4, fr 4), (5, fr 5), (15, v17)] H⟩)
@[simp] def r6 (s2 : SpecP) (fr : AFr) (H : Hp) : ARes :=
 areg (o' (z_ae (some ⟨T.ty_string, 1, 16, [(.str (bs []))]⟩) 4 [(0, (.str (bs [109, 111, 118, 115, 32]))), (1, (.str (bs [99, 109, 112, 32]))), (2, (.str (bs [97, 100, 100, 115, 32]))), (3, (.str (bs [115, 117, 98, 115, 32])))] H) ⟨fun v18 H1 =>
 q' (some (fr 5)) H1 ⟨fun v19 H2 =>
 q' (z_aa (.sl 1) v18 v19) H2 ⟨fun v20 H3 =>
 q' (ld' v20 H3) H3 ⟨fun v21 H4 =>
 q' (some (fr 4)) H4 ⟨fun v22 H5 =>
 q' (abinR .t .add v21 v22) H5 ⟨fun v23 H6 =>
 q' (fa' 4 (fr 1)) H6 ⟨fun v24 H7 =>
 q' (ld' v24 H7) H7 ⟨fun v25 H8 =>
 o' (callP false s2 [[none]] [v25] H8) ⟨fun v26 H9 =>
 q' (abinR .t .add v23 v26) H9 ⟨fun v27 H10 =>
 q' (some v27) H10 ⟨fun v2 H11 =>
 q' (some (.bool true)) H11 ⟨fun v3 H12 =>
 z_bw [z_am (some none) v20 H8 = z_am (some none) v20 H9] (e' [(2, v2), (3, v3)] H12)⟩⟩⟩⟩⟩⟩⟩⟩⟩⟩⟩⟩)
@[simp] def r7 (fr : AFr) (H : Hp) : ARes :=
 areg (q' (bn' .lss (fr 5) (.int .i64 7)) H ⟨fun v30 H =>
 e' [(1, fr 1), (4, fr 4), (5, fr 5), (28, v30)] H⟩)
@[simp] def r8 (s1 s2 : SpecP) (fr : AFr) (H : Hp) : ARes :=
 areg (o' (z_ae (some ⟨T.ty_string, 1, 16, [(.str (bs []))]⟩) 3 [(0, (.str (bs [108, 115, 108, 115, 32]))), (1, (.str (bs [108, 115, 114, 115, 32]))), (2, (.str (bs [97, 115, 114, 115, 32])))] H) ⟨fun v31 H1 =>
 q' (some (fr 5)) H1 ⟨fun v32 H2 =>
 q' (bn' .sub v32 (.int .i64 4)) H2 ⟨fun v33 H3 =>
 q' (z_aa (.sl 1) v31 v33) H3 ⟨fun v34 H4 =>
 q' (ld' v34 H4) H4 ⟨fun v35 H5 =>
 q' (some (fr 4)) H5 ⟨fun v36 H6 =>
 q' (abinR .t .add v35 v36) H6 ⟨fun v37 H7 =>
 q' (fa' 3 (fr 1)) H7 ⟨fun v38 H8 =>
 q' (ld' v38 H8) H8 ⟨fun v39 H9 =>
 o' (callP false s1 [[none]] [v39] H9) ⟨fun v40 H10 =>
 q' (abinR .t .add v37 v40) H10 ⟨fun v41 H11 =>
 q' (abinR .t .add v41 (.str (bs [44, 32]))) H11 ⟨fun v42 H12 =>
 q' (fa' 4 (fr 1)) H12 ⟨fun v43 H13 =>
 q' (ld' v43 H13) H13 ⟨fun v44 H14 =>
 o' (callP false s2 [[none]] [v44] H14) ⟨fun v45 H15 =>
 q' (abinR .t .add v42 v45) H15 ⟨fun v46 H16 =>
 q' (some v46) H16 ⟨fun v2 H17 =>
 q' (some (.bool true)) H17 ⟨fun v3 H18 =>
 z_bw [z_am (some none) v34 H9 = z_am (some none) v34 H10, z_am (some none) v34 H14 = z_am (some none) v34 H15, z_am (some none) v43 H9 = z_am (some none) v43 H10] (e' [(2, v2), (3, v3)] H18)⟩⟩⟩⟩⟩⟩⟩⟩⟩⟩⟩⟩⟩⟩⟩⟩⟩⟩)
@[simp] def r9 (fr : AFr) (H : Hp) : ARes :=
 areg (q' (bn' .lss (fr 5) (.int .i64 9)) H ⟨fun v49 H =>
 e' [(1, fr 1), (4, fr 4), (5, fr 5), (47, v49)] H⟩)
@[simp] def r10 (s1 : SpecP) (fr : AFr) (H : Hp) : ARes :=
 areg (o' (z_ae (some ⟨T.ty_string, 1, 16, [(.str (bs []))]⟩) 2 [(0, (.str (bs [97, 100, 100, 115, 32]))), (1, (.str (bs [115, 117, 98, 115, 32])))] H) ⟨fun v50 H1 =>
 q' (some (fr 5)) H1 ⟨fun v51 H2 =>
 q' (bn' .sub v51 (.int .i64 7)) H2 ⟨fun v52 H3 =>
 q' (z_aa (.sl 1) v50 v52) H3 ⟨fun v53 H4 =>
 q' (ld' v53 H4) H4 ⟨fun v54 H5 =>
 q' (some (fr 4)) H5 ⟨fun v55 H6 =>
 q' (abinR .t .add v54 v55) H6 ⟨fun v56 H7 =>
 q' (fa' 2 (fr 1)) H7 ⟨fun v57 H8 =>
 q' (ld' v57 H8) H8 ⟨fun v58 H9 =>
 o' (callP false s1 [[none]] [v58] H9) ⟨fun v59 H10 =>
 q' (abinR .t .add v56 v59) H10 ⟨fun v60 H11 =>
 q' (abinR .t .add v60 (.str (bs [44, 32]))) H11 ⟨fun v61 H12 =>
 q' (fa' 3 (fr 1)) H12 ⟨fun v62 H13 =>
 q' (ld' v62 H13) H13 ⟨fun v63 H14 =>
 o' (callP false s1 [[none]] [v63] H14) ⟨fun v64 H15 =>
 q' (abinR .t .add v61 v64) H15 ⟨fun v65 H16 =>
 q' (some v65) H16 ⟨fun v2 H17 =>
 q' (some (.bool true)) H17 ⟨fun v3 H18 =>
 z_bw [z_am (some none) v53 H9 = z_am (some none) v53 H10, z_am (some none) v53 H14 = z_am (some none) v53 H15, z_am (some none) v62 H9 = z_am (some none) v62 H10] (e' [(2, v2), (3, v3)] H18)⟩⟩⟩⟩⟩⟩⟩⟩⟩⟩⟩⟩⟩⟩⟩⟩⟩⟩)
@[simp] def r11 (fr : AFr) (H : Hp) : ARes :=
 areg (q' (bn' .lss (fr 5) (.int .i64 11)) H ⟨fun v68 H =>
 e' [(1, fr 1), (4, fr 4), (5, fr 5), (66, v68)] H⟩)
@[simp] def r12 (s1 s2 : SpecP) (fr : AFr) (H : Hp) : ARes :=
 areg (o' (z_ae (some ⟨T.ty_string, 1, 16, [(.str (bs []))]⟩) 2 [(0, (.str (bs [97, 100, 100, 115, 32]))), (1, (.str (bs [115, 117, 98, 115, 32])))] H) ⟨fun v69 H1 =>
 q' (some (fr 5)) H1 ⟨fun v70 H2 =>
 q' (bn' .sub v70 (.int .i64 9)) H2 ⟨fun v71 H3 =>
 q' (z_aa (.sl 1) v69 v71) H3 ⟨fun v72 H4 =>
 q' (ld' v72 H4) H4 ⟨fun v73 H5 =>
 q' (some (fr 4)) H5 ⟨fun v74 H6 =>
 q' (abinR .t .add v73 v74) H6 ⟨fun v75 H7 =>
 q' (fa' 2 (fr 1)) H7 ⟨fun v76 H8 =>
 q' (ld' v76 H8) H8 ⟨fun v77 H9 =>
 o' (callP false s1 [[none]] [v77] H9) ⟨fun v78 H10 =>
 q' (abinR .t .add v75 v78) H10 ⟨fun v79 H11 =>
 q' (abinR .t .add v79 (.str (bs [44, 32]))) H11 ⟨fun v80 H12 =>
 q' (fa' 4 (fr 1)) H12 ⟨fun v81 H13 =>
 q' (ld' v81 H13) H13 ⟨fun v82 H14 =>
 o' (callP false s2 [[none]] [v82] H14) ⟨fun v83 H15 =>
 q' (abinR .t .add v80 v83) H15 ⟨fun v84 H16 =>
 q' (some v84) H16 ⟨fun v2 H17 =>
 q' (some (.bool true)) H17 ⟨fun v3 H18 =>
 z_bw [z_am (some none) v72 H9 = z_am (some none) v72 H10, z_am (some none) v72 H14 = z_am (some none) v72 H15, z_am (some none) v81 H9 = z_am (some none) v81 H10] (e' [(2, v2), (3, v3)] H18)⟩⟩⟩⟩⟩⟩⟩⟩⟩⟩⟩⟩⟩⟩⟩⟩⟩⟩)
@[simp] def r13 (fr : AFr) (H : Hp) : ARes :=
 areg (q' (bn' .eql (fr 5) (.int .i64 11)) H ⟨fun v87 H =>
 e' [(1, fr 1), (4, fr 4), (5, fr 5), (85, v87)] H⟩)
@[simp] def r14 (s1 : SpecP) (fr : AFr) (H : Hp) : ARes :=
 areg (o' (z_ae (some ⟨T.ty_string, 1, 16, [(.str (bs []))]⟩) 16 [(0, (.str (bs [97, 110, 100, 115]))), (1, (.str (bs [101, 111, 114, 115]))), (2, (.str (bs [108, 115, 108, 115]))), (3, (.str (bs [108, 115, 114, 115]))), (4, (.str (bs [97, 115, 114, 115]))), (5, (.str (bs [97, 100, 99, 115]))), (6, (.str (bs [115, 98, 99, 115]))), (7, (.str (bs [114, 111, 114, 115]))), (8, (.str (bs [116, 115, 116]))), (9, (.str (bs [114, 115, 98, 115]))), (10, (.str (bs [99, 109, 112]))), (11, (.str (bs [99, 109, 110]))), (12, (.str (bs [111, 114, 114, 115]))), (13, (.str (bs [109, 117, 108, 115]))), (14, (.str (bs [98, 105, 99, 115]))), (15, (.str (bs [109, 118, 110, 115])))] H) ⟨fun v88 H1 =>
 q' (fa' 4 (fr 1)) H1 ⟨fun v89 H2 =>
 q' (ld' v89 H2) H2 ⟨fun v90 H3 =>
 q' (z_aa (.sl 1) v88 v90) H3 ⟨fun v91 H4 =>
 q' (ld' v91 H4) H4 ⟨fun v92 H5 =>
 q' (abinR .t .add v92 (.str (bs [32]))) H5 ⟨fun v93 H6 =>
 q' (some (fr 4)) H6 ⟨fun v94 H7 =>
 q' (abinR .t .add v93 v94) H7 ⟨fun v95 H8 =>
 q' (fa' 3 (fr 1)) H8 ⟨fun v96 H9 =>
 q' (ld' v96 H9) H9 ⟨fun v97 H10 =>
 o' (callP false s1 [[none]] [v97] H10) ⟨fun v98 H11 =>
 q' (abinR .t .add v95 v98) H11 ⟨fun v99 H12 =>
 q' (some v99) H12 ⟨fun v2 H13 =>
 q' (some (.bool true)) H13 ⟨fun v3 H14 =>
 z_bw [z_am (some none) v89 H10 = z_am (some none) v89 H11, z_am (some none) v91 H10 = z_am (some none) v91 H11] (e' [(2, v2), (3, v3)] H14)⟩⟩⟩⟩⟩⟩⟩⟩⟩⟩⟩⟩⟩⟩)
@[simp] def r15 (fr : AFr) (H : Hp) : ARes :=
 areg (q' (bn' .lss (fr 5) (.int .i64 14)) H ⟨fun v102 H =>
 e' [(1, fr 1), (4, fr 4), (5, fr 5), (100, v102)] H⟩)
@[simp] def r16 (s1 s2 : SpecP) (fr : AFr) (H : Hp) : ARes :=
 areg (o' (z_ae (some ⟨T.ty_string, 1, 16, [(.str (bs []))]⟩) 2 [(0, (.str (bs [108, 100, 114, 32]))), (1, (.str (bs [115, 116, 114, 32])))] H) ⟨fun v103 H1 =>
 q' (some (fr 5)) H1 ⟨fun v104 H2 =>
 q' (bn' .sub v104 (.int .i64 12)) H2 ⟨fun v105 H3 =>
 q' (z_aa (.sl 1) v103 v105) H3 ⟨fun v106 H4 =>
 q' (ld' v106 H4) H4 ⟨fun v107 H5 =>
 q' (some (fr 4)) H5 ⟨fun v108 H6 =>
 q' (abinR .t .add v107 v108) H6 ⟨fun v109 H7 =>
 q' (abinR .t .add v109 (.str (bs [91]))) H7 ⟨fun v110 H8 =>
 q' (fa' 2 (fr 1)) H8 ⟨fun v111 H9 =>
 q' (ld' v111 H9) H9 ⟨fun v112 H10 =>
 o' (callP false s1 [[none]] [v112] H10) ⟨fun v113 H11 =>
 q' (abinR .t .add v110 v113) H11 ⟨fun v114 H12 =>
 q' (abinR .t .add v114 (.str (bs [44, 32]))) H12 ⟨fun v115 H13 =>
 q' (fa' 4 (fr 1)) H13 ⟨fun v116 H14 =>
 q' (ld' v116 H14) H14 ⟨fun v117 H15 =>
 q' (bn' .mul (.int .i64 4) v117) H15 ⟨fun v118 H16 =>
 o' (callP false s2 [[none]] [v118] H16) ⟨fun v119 H17 =>
 q' (abinR .t .add v115 v119) H17 ⟨fun v120 H18 =>
 q' (abinR .t .add v120 (.str (bs [93]))) H18 ⟨fun v121 H19 =>
 q' (some v121) H19 ⟨fun v2 H20 =>
 q' (some (.bool true)) H20 ⟨fun v3 H21 =>
 z_bw [z_am (some none) v106 H10 = z_am (some none) v106 H11, z_am (some none) v106 H16 = z_am (some none) v106 H17, z_am (some none) v116 H10 = z_am (some none) v116 H11] (e' [(2, v2), (3, v3)] H21)⟩⟩⟩⟩⟩⟩⟩⟩⟩⟩⟩⟩⟩⟩⟩⟩⟩⟩⟩⟩⟩)
@[simp] def r17 (fr : AFr) (H : Hp) : ARes :=
 areg (q' (bn' .lss (fr 5) (.int .i64 16)) H ⟨fun v124 H =>
 e' [(1, fr 1), (4, fr 4), (5, fr 5), (122, v124)] H⟩)
@[simp] def r18 (s1 : SpecP) (fr : AFr) (H : Hp) : ARes :=
 areg (o' (z_ae (some ⟨T.ty_string, 1, 16, [(.str (bs []))]⟩) 2 [(0, (.str (bs [108, 100, 114, 32]))), (1, (.str (bs [115, 116, 114, 32])))] H) ⟨fun v125 H1 =>
 q' (some (fr 5)) H1 ⟨fun v126 H2 =>
 q' (bn' .sub v126 (.int .i64 14)) H2 ⟨fun v127 H3 =>
 q' (z_aa (.sl 1) v125 v127) H3 ⟨fun v128 H4 =>
 q' (ld' v128 H4) H4 ⟨fun v129 H5 =>
 q' (some (fr 4)) H5 ⟨fun v130 H6 =>
 q' (abinR .t .add v129 v130) H6 ⟨fun v131 H7 =>
 q' (abinR .t .add v131 (.str (bs [91]))) H7 ⟨fun v132 H8 =>
 q' (fa' 2 (fr 1)) H8 ⟨fun v133 H9 =>
 q' (ld' v133 H9) H9 ⟨fun v134 H10 =>
 o' (callP false s1 [[none]] [v134] H10) ⟨fun v135 H11 =>
 q' (abinR .t .add v132 v135) H11 ⟨fun v136 H12 =>
 q' (abinR .t .add v136 (.str (bs [44, 32]))) H12 ⟨fun v137 H13 =>
 q' (fa' 3 (fr 1)) H13 ⟨fun v138 H14 =>
 q' (ld' v138 H14) H14 ⟨fun v139 H15 =>
 o' (callP false s1 [[none]] [v139] H15) ⟨fun v140 H16 =>
 q' (abinR .t .add v137 v140) H16 ⟨fun v141 H17 =>
 q' (abinR .t .add v141 (.str (bs [93]))) H17 ⟨fun v142 H18 =>
 q' (some v142) H18 ⟨fun v2 H19 =>
 q' (some (.bool true)) H19 ⟨fun v3 H20 =>
 z_bw [z_am (some none) v128 H10 = z_am (some none) v128 H11, z_am (some none) v128 H15 = z_am (some none) v128 H16, z_am (some none) v138 H10 = z_am (some none) v138 H11] (e' [(2, v2), (3, v3)] H20)⟩⟩⟩⟩⟩⟩⟩⟩⟩⟩⟩⟩⟩⟩⟩⟩⟩⟩⟩⟩)
@[simp] def r19 (fr : AFr) (H : Hp) : ARes :=
 areg (q' (bn' .eql (fr 5) (.int .i64 16)) H ⟨fun v145 H =>
 e' [(1, fr 1), (4, fr 4), (5, fr 5), (143, v145)] H⟩)
@[simp] def r20 (s2 : SpecP) (fr : AFr) (H : Hp) : ARes :=
 areg (q' (abinR .t .add (.str (bs [108, 100, 114, 32])) (fr 4)) H ⟨fun v147 H =>
 q' (abinR .t .add v147 (.str (bs [91, 112, 99, 44, 32]))) H ⟨fun v148 H =>
 q' (fa' 4 (fr 1)) H ⟨fun v149 H =>
 q' (ld' v149 H) H ⟨fun v150 H =>
 q' (bn' .mul (.int .i64 4) v150) H ⟨fun v151 H =>
 o' (callP false s2 [[none]] [v151] H) ⟨fun v152 H =>
 q' (abinR .t .add v148 v152) H ⟨fun v153 H =>
 q' (abinR .t .add v153 (.str (bs [93]))) H ⟨fun v154 H =>
 e' [(2, v154), (3, (.bool true))] H⟩⟩⟩⟩⟩⟩⟩⟩)
@[simp] def r21 (fr : AFr) (H : Hp) : ARes :=
 areg (q' (bn' .eql (fr 5) (.int .i64 17)) H ⟨fun v157 H =>
 e' [(1, fr 1), (5, fr 5), (155, v157)] H⟩)
@[simp] def r22 (s2 : SpecP) (fr : AFr) (H : Hp) : ARes :=
 areg (q' (fa' 4 (fr 1)) H ⟨fun v158 H =>
 q' (ld' v158 H) H ⟨fun v159 H =>
 q' (bn' .mul (.int .i64 2) v159) H ⟨fun v160 H =>
 o' (callP false s2 [[none]] [v160] H) ⟨fun v161 H =>
 q' (abinR .t .add (.str (bs [98, 32])) v161) H ⟨fun v162 H =>
 e' [(2, v162), (3, (.bool true))] H⟩⟩⟩⟩⟩)
@[simp] def r23 (fr : AFr) (H : Hp) : ARes :=
 areg (q' (bn' .eql (fr 5) (.int .i64 18)) H ⟨fun v165 H =>
 e' [(1, fr 1), (5, fr 5), (163, v165)] H⟩)
@[simp] def r24 (s2 : SpecP) (fr : AFr) (H : Hp) : ARes :=
 areg (o' (z_ae (some ⟨T.ty_string, 1, 16, [(.str (bs []))]⟩) 14 [(0, (.str (bs [98, 101, 113]))), (1, (.str (bs [98, 110, 101]))), (2, (.str (bs [98, 99, 115]))), (3, (.str (bs [98, 99, 99]))), (4, (.str (bs [98, 109, 105]))), (5, (.str (bs [98, 112, 108]))), (6, (.str (bs [98, 118, 115]))), (7, (.str (bs [98, 118, 99]))), (8, (.str (bs [98, 104, 105]))), (9, (.str (bs [98, 108, 115]))), (10, (.str (bs [98, 103, 101]))), (11, (.str (bs [98, 108, 116]))), (12, (.str (bs [98, 103, 116]))), (13, (.str (bs [98, 108, 101])))] H) ⟨fun v166 H1 =>
 q' (fa' 1 (fr 1)) H1 ⟨fun v167 H2 =>
 q' (ld' v167 H2) H2 ⟨fun v168 H3 =>
 q' (z_aa (.sl 1) v166 v168) H3 ⟨fun v169 H4 =>
 q' (ld' v169 H4) H4 ⟨fun v170 H5 =>
 q' (abinR .t .add v170 (.str (bs [32]))) H5 ⟨fun v171 H6 =>
 q' (fa' 4 (fr 1)) H6 ⟨fun v172 H7 =>
 q' (ld' v172 H7) H7 ⟨fun v173 H8 =>
 q' (bn' .mul (.int .i64 2) v173) H8 ⟨fun v174 H9 =>
 o' (callP false s2 [[none]] [v174] H9) ⟨fun v175 H10 =>
 q' (abinR .t .add v171 v175) H10 ⟨fun v176 H11 =>
 q' (some v176) H11 ⟨fun v2 H12 =>
 q' (some (.bool true)) H12 ⟨fun v3 H13 =>
 z_bw [z_am (some none) v167 H9 = z_am (some none) v167 H10, z_am (some none) v169 H9 = z_am (some none) v169 H10] (e' [(2, v2), (3, v3)] H13)⟩⟩⟩⟩⟩⟩⟩⟩⟩⟩⟩⟩⟩)
@[simp] def r25 (fr : AFr) (H : Hp) : ARes :=
 areg (q' (bn' .eql (fr 5) (.int .i64 19)) H ⟨fun v179 H =>
 e' [(1, fr 1), (177, v179)] H⟩)
@[simp] def r26 (fr : AFr) (H : Hp) : ARes :=
 areg (e' [(2, (.str (bs [110, 111, 112]))), (3, (.bool true))] H)
@[simp] def r27 (s2 : SpecP) (fr : AFr) (H : Hp) : ARes :=
 areg (q' (fa' 4 (fr 1)) H ⟨fun v180 H =>
 q' (ld' v180 H) H ⟨fun v181 H =>
 o' (callP false s2 [[none]] [v181] H) ⟨fun v182 H =>
 q' (abinR .t .add (.str (bs [98, 107, 112, 116, 32])) v182) H ⟨fun v183 H =>
 e' [(2, v183), (3, (.bool true))] H⟩⟩⟩⟩)
@[simp] def body (s0 s1 s2 : SpecP) (fr : AFr) (H : Hp) : ARes :=
 s' (r0 fr H) ⟨fun fr H =>
 s' (s' (r1 s0 fr H) ⟨fun fr H =>
 c' (fr 8)
 ⟨s' (r2 fr H) ⟨fun fr H =>
 some (.ret, fr, H)⟩⟩
 ⟨some (.normal, fr, H)⟩⟩) ⟨fun fr H =>
 s' (r3 s1 fr H) ⟨fun fr H =>
 s' (r4 fr H) ⟨fun fr H =>
 s' (aexit 0 (s' (r5 fr H) ⟨fun fr H =>
 c' (fr 15)
 ⟨s' (r6 s2 fr H) ⟨fun fr H =>
 some (.ret, fr, H)⟩⟩
 ⟨s' (r7 fr H) ⟨fun fr H =>
 c' (fr 28)
 ⟨s' (r8 s1 s2 fr H) ⟨fun fr H =>
 some (.ret, fr, H)⟩⟩
 ⟨s' (r9 fr H) ⟨fun fr H =>
 c' (fr 47)
 ⟨s' (r10 s1 fr H) ⟨fun fr H =>
 some (.ret, fr, H)⟩⟩
 ⟨s' (r11 fr H) ⟨fun fr H =>
 c' (fr 66)
 ⟨s' (r12 s1 s2 fr H) ⟨fun fr H =>
 some (.ret, fr, H)⟩⟩
 ⟨s' (r13 fr H) ⟨fun fr H =>
 c' (fr 85)
 ⟨s' (r14 s1 fr H) ⟨fun fr H =>
 some (.ret, fr, H)⟩⟩
 ⟨s' (r15 fr H) ⟨fun fr H =>
 c' (fr 100)
 ⟨s' (r16 s1 s2 fr H) ⟨fun fr H =>
 some (.ret, fr, H)⟩⟩
 ⟨s' (r17 fr H) ⟨fun fr H =>
 c' (fr 122)
 ⟨s' (r18 s1 fr H) ⟨fun fr H =>
 some (.ret, fr, H)⟩⟩
 ⟨s' (r19 fr H) ⟨fun fr H =>
 c' (fr 143)
 ⟨s' (r20 s2 fr H) ⟨fun fr H =>
 some (.ret, fr, H)⟩⟩
 ⟨s' (r21 fr H) ⟨fun fr H =>
 c' (fr 155)
 ⟨s' (r22 s2 fr H) ⟨fun fr H =>
 some (.ret, fr, H)⟩⟩
 ⟨s' (r23 fr H) ⟨fun fr H =>
 c' (fr 163)
 ⟨s' (r24 s2 fr H) ⟨fun fr H =>
 some (.ret, fr, H)⟩⟩
 ⟨s' (r25 fr H) ⟨fun fr H =>
 c' (fr 177)
 ⟨s' (r26 fr H) ⟨fun fr H =>
 some (.ret, fr, H)⟩⟩
 ⟨some (.normal, fr, H)⟩⟩⟩⟩⟩⟩⟩⟩⟩⟩⟩⟩⟩⟩⟩⟩⟩⟩⟩⟩⟩⟩)) ⟨fun fr H =>
 s' (r27 s2 fr H) ⟨fun fr H =>
 some (.ret, fr, H)⟩⟩⟩⟩⟩⟩
@[simp] def res (fr : AFr) (H : Hp) : Option (List AV) := res2 (some (fr 2)) (res2 (some (fr 3)) (some []))
end z_bc
def z_bc (a0 : AV) : Option AV := z_ap (some [[none], [none]]) (afinR z_bc.res (z_bc.body z_ah.spec z_c4.spec z_dt.spec (args0 [a0]) Hp.empty))
def z_bc.spec : List AV → Option AV
 | [a0] => z_bc a0
 | _ => none
end
end Go.Abs
end
section
namespace Go.Abs
noncomputable section
namespace z_cv
def C (s0 : SpecP) : Tab := (Tab.none.add 75 (.pure false s0))
@[simp] def r0 (fr : AFr) (H : Hp) : ARes :=
 areg (e' [(0, fr 0), (1, fr 1)] H)
@[simp] def r1 (fr : AFr) (H : Hp) : ARes :=
 areg (q' (alenR .sl (fr 0)) H ⟨fun v9 H =>
 q' (alenR .sl (fr 1)) H ⟨fun v11 H =>
 q' (bn' .neq v9 v11) H ⟨fun v12 H =>
 e' [(0, fr 0), (1, fr 1), (12, v12)] H⟩⟩⟩)
@[simp] def r2 (fr : AFr) (H : Hp) : ARes :=
 areg (e' [(4, (.bool false))] H)
@[simp] def r3 (fr : AFr) (H : Hp) : ARes :=
 areg (e' [(0, fr 0), (1, fr 1), (5, (.int .i64 0))] H)
@[simp] def r4 (fr : AFr) (H : Hp) : ARes :=
 areg (q' (alenR .sl (fr 0)) H ⟨fun v15 H =>
 q' (bn' .lss (fr 5) v15) H ⟨fun v16 H =>
 e' [(0, fr 0), (1, fr 1), (5, fr 5), (16, v16)] H⟩⟩)
@[simp] def r6 (s0 : SpecP) (fr : AFr) (H : Hp) : ARes :=
 areg (q' (z_aa (.sl 5) (fr 0) (fr 5)) H ⟨fun v22 H =>
 q' (Ld' 5 v22 H) H ⟨fun v23 H =>
 o' (callP false s0 [[none, none, none, none, none]] [v23] H) ⟨fun v24 H =>
 q' (aextract v24 0) H ⟨fun v25 H =>
 q' (aextract v24 1) H ⟨fun v26 H =>
 e' [(0, fr 0), (1, fr 1), (5, fr 5), (6, v25), (7, v26)] H⟩⟩⟩⟩⟩)
@[simp] def r7 (fr : AFr) (H : Hp) : ARes :=
 areg (q' (aun .not (fr 7)) H ⟨fun v28 H =>
 G' v28 false ⟨some (fr 6)⟩ H ⟨fun v30 H =>
 G' v28 false ⟨some (fr 1)⟩ H ⟨fun v31 H =>
 G' v28 false ⟨some (fr 5)⟩ H ⟨fun v32 H =>
 G' v28 false ⟨z_aa (.sl 1) v31 v32⟩ H ⟨fun v33 H =>
 G' v28 false ⟨ld' v33 H⟩ H ⟨fun v34 H =>
 G' v28 false ⟨abinR .t .neq v30 v34⟩ H ⟨fun v35 H =>
 q' (apick v28 (.bool true) v35) H ⟨fun v36 H =>
 e' [(0, fr 0), (1, fr 1), (5, fr 5), (36, v36)] H⟩⟩⟩⟩⟩⟩⟩⟩)
@[simp] def r8 (fr : AFr) (H : Hp) : ARes :=
 areg (e' [(4, (.bool false))] H)
@[simp] def r5 (fr : AFr) (H : Hp) : ARes :=
 areg (q' (bn' .add (fr 5) (.int .i64 1)) H ⟨fun v18 H =>
 e' [(0, fr 0), (1, fr 1), (5, v18)] H⟩)
@[simp] def r9 (fr : AFr) (H : Hp) : ARes :=
 areg (e' [(4, (.bool true))] H)
def l0 (s0 : SpecP) (fr : AFr) (H : Hp) : ARes :=
 s' (s' (r4 fr H) ⟨fun fr H =>
 c' (fr 16)
 ⟨some (.normal, fr, H)⟩
 ⟨some (.exit 0, fr, H)⟩⟩) ⟨fun fr H =>
 s' (aexit 1 (s' (r6 s0 fr H) ⟨fun fr H =>
 s' (r7 fr H) ⟨fun fr H =>
 c' (fr 36)
 ⟨s' (r8 fr H) ⟨fun fr H =>
 some (.ret, fr, H)⟩⟩
 ⟨some (.normal, fr, H)⟩⟩⟩)) ⟨fun fr H =>
 r5 fr H⟩⟩
@[simp] def body (s0 : SpecP) (fr : AFr) (H : Hp) : ARes :=
 s' (r0 fr H) ⟨fun fr H =>
 s' (s' (r1 fr H) ⟨fun fr H =>
 c' (fr 12)
 ⟨s' (r2 fr H) ⟨fun fr H =>
 some (.ret, fr, H)⟩⟩
 ⟨some (.normal, fr, H)⟩⟩) ⟨fun fr H =>
 s' (s' (r3 fr H) ⟨fun fr H =>
 aexit 0 (aloop (l0 s0) fr H)⟩) ⟨fun fr H =>
 s' (r9 fr H) ⟨fun fr H =>
 some (.ret, fr, H)⟩⟩⟩⟩
@[simp] def res (fr : AFr) (H : Hp) : Option (List AV) := res2 (some (fr 4)) (some [])
end z_cv
def z_cv (a0 a1 : AV) : Option AV := z_ap (some [[none]]) (afinR z_cv.res (z_cv.body z_bc.spec (args0 [a0, a1]) Hp.empty))
def z_cv.spec : List AV → Option AV
 | [a0, a1] => z_cv a0 a1
 | _ => none
end
end Go.Abs
end
section
namespace Go.Abs
noncomputable section
namespace z_b0
def C (s0 : SpecP) : Tab := (Tab.none.add 82 (.pure false s0))
@[simp] def r0 (fr : AFr) (H : Hp) : ARes :=
 areg (o' (abox T.ty_api_Code (fr 0) H) ⟨fun v1 H =>
 e' [(1, v1)] H⟩)
@[simp] def r1 (fr : AFr) (H : Hp) : ARes :=
 areg (e' [(1, fr 1), (3, (.int .i64 0))] H)
@[simp] def r2 (fr : AFr) (H : Hp) : ARes :=
 areg (q' (fa' 2 (fr 1)) H ⟨fun v6 H =>
 q' (ld' v6 H) H ⟨fun v7 H =>
 q' (alenR .sl v7) H ⟨fun v8 H =>
 q' (bn' .lss (fr 3) v8) H ⟨fun v9 H =>
 e' [(1, fr 1), (3, fr 3), (9, v9)] H⟩⟩⟩⟩)
@[simp] def r4 (fr : AFr) (H : Hp) : ARes :=
 areg (e' [(1, fr 1), (3, fr 3), (4, (.int .i64 0))] H)
@[simp] def r5 (fr : AFr) (H : Hp) : ARes :=
 areg (q' (bn' .lss (fr 4) (fr 3)) H ⟨fun v14 H =>
 e' [(1, fr 1), (3, fr 3), (4, fr 4), (14, v14)] H⟩)
@[simp] def r7 (fr : AFr) (H : Hp) : ARes :=
 areg (q' (fa' 2 (fr 1)) H ⟨fun v17 H1 =>
 q' (ld' v17 H1) H1 ⟨fun v18 H2 =>
 q' (some (fr 3)) H2 ⟨fun v19 H3 =>
 q' (z_aa (.sl 1) v18 v19) H3 ⟨fun v20 H4 =>
 q' (ld' v20 H4) H4 ⟨fun v21 H5 =>
 q' (fa' 2 (fr 1)) H5 ⟨fun v22 H6 =>
 q' (ld' v22 H6) H6 ⟨fun v23 H7 =>
 q' (some (fr 4)) H7 ⟨fun v24 H8 =>
 q' (z_aa (.sl 1) v23 v24) H8 ⟨fun v25 H9 =>
 q' (ld' v25 H9) H9 ⟨fun v26 H10 =>
 q' (bn' .eql v21 v26) H10 ⟨fun v27 H11 =>
 e' [(1, fr 1), (3, fr 3), (4, fr 4), (27, v27)] H11⟩⟩⟩⟩⟩⟩⟩⟩⟩⟩⟩)
@[simp] def r8 (fr : AFr) (H : Hp) : ARes :=
 areg (e' [(2, (.bool false))] H)
@[simp] def r6 (fr : AFr) (H : Hp) : ARes :=
 areg (q' (bn' .add (fr 4) (.int .i64 1)) H ⟨fun v16 H =>
 e' [(1, fr 1), (3, fr 3), (4, v16)] H⟩)
@[simp] def r9 (fr : AFr) (H : Hp) : ARes :=
 areg (q' (fa' 2 (fr 1)) H ⟨fun v28 H1 =>
 q' (ld' v28 H1) H1 ⟨fun v29 H2 =>
 q' (some (fr 3)) H2 ⟨fun v30 H3 =>
 q' (z_aa (.sl 1) v29 v30) H3 ⟨fun v31 H4 =>
 q' (ld' v31 H4) H4 ⟨fun v32 H5 =>
 q' (fa' 0 (fr 1)) H5 ⟨fun v33 H6 =>
 q' (ld' v33 H6) H6 ⟨fun v34 H7 =>
 q' (bn' .lss v32 v34) H7 ⟨fun v35 H8 =>
 e' [(1, fr 1), (3, fr 3), (35, v35)] H8⟩⟩⟩⟩⟩⟩⟩⟩)
@[simp] def r10 (fr : AFr) (H : Hp) : ARes :=
 areg (e' [(2, (.bool false))] H)
@[simp] def r3 (fr : AFr) (H : Hp) : ARes :=
 areg (q' (bn' .add (fr 3) (.int .i64 1)) H ⟨fun v11 H =>
 e' [(1, fr 1), (3, v11)] H⟩)
@[simp] def r11 (s0 : SpecP) (fr : AFr) (H : Hp) : ARes :=
 areg (q' (Ld' 3 (fr 1) H) H ⟨fun v36 H =>
 o' (callP false s0 [[none, some 4, some 1]] [v36] H) ⟨fun v37 H =>
 e' [(2, v37)] H⟩⟩)
def l1 (s0 : SpecP) (fr : AFr) (H : Hp) : ARes :=
 s' (s' (r5 fr H) ⟨fun fr H =>
 c' (fr 14)
 ⟨some (.normal, fr, H)⟩
 ⟨some (.exit 2, fr, H)⟩⟩) ⟨fun fr H =>
 s' (aexit 3 (s' (r7 fr H) ⟨fun fr H =>
 c' (fr 27)
 ⟨s' (r8 fr H) ⟨fun fr H =>
 some (.ret, fr, H)⟩⟩
 ⟨some (.normal, fr, H)⟩⟩)) ⟨fun fr H =>
 r6 fr H⟩⟩
def l0 (s0 : SpecP) (fr : AFr) (H : Hp) : ARes :=
 s' (s' (r2 fr H) ⟨fun fr H =>
 c' (fr 9)
 ⟨some (.normal, fr, H)⟩
 ⟨some (.exit 0, fr, H)⟩⟩) ⟨fun fr H =>
 s' (aexit 1 (s' (s' (r4 fr H) ⟨fun fr H =>
 aexit 2 (aloop (l1 s0) fr H)⟩) ⟨fun fr H =>
 s' (r9 fr H) ⟨fun fr H =>
 c' (fr 35)
 ⟨s' (r10 fr H) ⟨fun fr H =>
 some (.ret, fr, H)⟩⟩
 ⟨some (.normal, fr, H)⟩⟩⟩)) ⟨fun fr H =>
 r3 fr H⟩⟩
@[simp] def body (s0 : SpecP) (fr : AFr) (H : Hp) : ARes :=
 s' (r0 fr H) ⟨fun fr H =>
 s' (s' (r1 fr H) ⟨fun fr H =>
 aexit 0 (aloop (l0 s0) fr H)⟩) ⟨fun fr H =>
 s' (r11 s0 fr H) ⟨fun fr H =>
 some (.ret, fr, H)⟩⟩⟩
@[simp] def res (fr : AFr) (H : Hp) : Option (List AV) := res2 (some (fr 2)) (some [])
end z_b0
def z_b0 (a0 : AV) : Option AV := z_ap (some [[none]]) (afinR z_b0.res (z_b0.body z_bg.spec (args0 [a0]) Hp.empty))
def z_b0.spec : List AV → Option AV
 | [a0] => z_b0 a0
 | _ => none
namespace z_bk
def C (s0 s1 : SpecP) : Tab := ((Tab.none.add 82 (.pure false s0)).add 74 (.pure false s1))
@[simp] def r0 (fr : AFr) (H : Hp) : ARes :=
 areg (o' (abox T.ty_api_Code (fr 0) H) ⟨fun v1 H =>
 e' [(1, v1)] H⟩)
@[simp] def r1 (fr : AFr) (H : Hp) : ARes :=
 areg (o' (z_ae (some ⟨T.ty_int, 1, 8, [(.int .i64 0)]⟩) 0 [] H) ⟨fun v8 H =>
 e' [(1, fr 1), (3, v8)] H⟩)
@[simp] def r2 (s0 : SpecP) (fr : AFr) (H : Hp) : ARes :=
 areg (q' (Ld' 3 (fr 1) H) H ⟨fun v9 H =>
 o' (callP false s0 [[none, some 4, some 1]] [v9] H) ⟨fun v10 H =>
 q' (aun .not v10) H ⟨fun v11 H =>
 e' [(1, fr 1), (3, fr 3), (11, v11)] H⟩⟩⟩)
@[simp] def r3 (fr : AFr) (H : Hp) : ARes :=
 areg (e' [(2, (fr 3))] H)
@[simp] def r4 (fr : AFr) (H : Hp) : ARes :=
 areg (e' [(1, fr 1), (3, fr 3), (4, (.int .i64 0))] H)
@[simp] def r5 (fr : AFr) (H : Hp) : ARes :=
 areg (q' (fa' 0 (fr 1)) H ⟨fun v14 H =>
 q' (ld' v14 H) H ⟨fun v15 H =>
 q' (fa' 1 (fr 1)) H ⟨fun v16 H =>
 q' (ld' v16 H) H ⟨fun v17 H =>
 q' (alenR .sl v17) H ⟨fun v18 H =>
 q' (bn' .add v15 v18) H ⟨fun v19 H =>
 q' (bn' .lss (fr 4) v19) H ⟨fun v20 H =>
 e' [(1, fr 1), (3, fr 3), (4, fr 4), (20, v20)] H⟩⟩⟩⟩⟩⟩⟩)
@[simp] def r7 (fr : AFr) (H : Hp) : ARes :=
 areg (q' (fa' 0 (fr 1)) H ⟨fun v24 H =>
 q' (ld' v24 H) H ⟨fun v25 H =>
 q' (bn' .lss (fr 4) v25) H ⟨fun v26 H =>
 e' [(1, fr 1), (3, fr 3), (4, fr 4), (26, v26)] H⟩⟩⟩)
@[simp] def r8 (fr : AFr) (H : Hp) : ARes :=
 areg (o' (z_ae (some ⟨T.ty_int, 1, 8, [(.int .i64 0)]⟩) 1 [(0, (.int .i64 (-1)))] H) ⟨fun v28 H =>
 o' (z_bt (some ⟨T.ty_int, 1, 8, [(.int .i64 0)]⟩) (fr 3) v28 H) ⟨fun v29 H =>
 e' [(1, fr 1), (3, v29), (4, fr 4)] H⟩⟩)
@[simp] def r9 (fr : AFr) (H : Hp) : ARes :=
 areg (q' (fa' 0 (fr 1)) H ⟨fun v32 H =>
 q' (ld' v32 H) H ⟨fun v33 H =>
 q' (bn' .sub (fr 4) v33) H ⟨fun v34 H =>
 o' (z_ae (some ⟨T.ty_int, 1, 8, [(.int .i64 0)]⟩) 1 [(0, v34)] H) ⟨fun v35 H =>
 o' (z_bt (some ⟨T.ty_int, 1, 8, [(.int .i64 0)]⟩) (fr 3) v35 H) ⟨fun v36 H =>
 e' [(1, fr 1), (3, v36), (4, fr 4)] H⟩⟩⟩⟩⟩)
@[simp] def r6 (fr : AFr) (H : Hp) : ARes :=
 areg (q' (bn' .add (fr 4) (.int .i64 1)) H ⟨fun v22 H =>
 e' [(1, fr 1), (3, fr 3), (4, v22)] H⟩)
@[simp] def r10 (fr : AFr) (H : Hp) : ARes :=
 areg (e' [(1, fr 1), (3, fr 3), (5, (.int .i64 0))] H)
@[simp] def r11 (fr : AFr) (H : Hp) : ARes :=
 areg (q' (fa' 1 (fr 1)) H ⟨fun v38 H =>
 q' (ld' v38 H) H ⟨fun v39 H =>
 q' (alenR .sl v39) H ⟨fun v40 H =>
 q' (bn' .lss (fr 5) v40) H ⟨fun v41 H =>
 e' [(1, fr 1), (3, fr 3), (5, fr 5), (41, v41)] H⟩⟩⟩⟩)
@[simp] def r13 (fr : AFr) (H : Hp) : ARes :=
 areg (q' (fa' 1 (fr 1)) H ⟨fun v44 H =>
 q' (ld' v44 H) H ⟨fun v45 H =>
 q' (z_aa (.sl 4) v45 (fr 5)) H ⟨fun v47 H =>
 q' (Ld' 4 v47 H) H ⟨fun v48 H =>
 o' (z_bo T.ty_api_Op (some (.agg [(.int .i64 0), (.int .i64 0), (.int .i64 0), (W32 0#32)])) H) ⟨fun v6 H =>
 w' (z_ac (some 4) v6 v48 H) ⟨fun _ H =>
 e' [(1, fr 1), (3, fr 3), (5, fr 5), (6, v6)] H⟩⟩⟩⟩⟩⟩)
@[simp] def r14 (s1 : SpecP) (fr : AFr) (H : Hp) : ARes :=
 areg (q' (fa' 0 (fr 6)) H ⟨fun v49 H =>
 q' (ld' v49 H) H ⟨fun v50 H =>
 o' (callP false s1 [[none]] [v50] H) ⟨fun v51 H =>
 q' (bn' .gtr v51 (.int .i64 0)) H ⟨fun v52 H =>
 e' [(1, fr 1), (3, fr 3), (5, fr 5), (6, fr 6), (52, v52)] H⟩⟩⟩⟩)
@[simp] def r15 (fr : AFr) (H : Hp) : ARes :=
 areg (q' (fa' 1 (fr 6)) H ⟨fun v54 H =>
 q' (ld' v54 H) H ⟨fun v55 H =>
 q' (z_aa (.sl 1) (fr 3) v55) H ⟨fun v57 H =>
 w' (z_ac (some 1) v57 (fr 5) H) ⟨fun _ H =>
 e' [(1, fr 1), (3, fr 3), (5, fr 5), (6, fr 6)] H⟩⟩⟩⟩)
@[simp] def r16 (s1 : SpecP) (fr : AFr) (H : Hp) : ARes :=
 areg (q' (fa' 0 (fr 6)) H ⟨fun v58 H =>
 q' (ld' v58 H) H ⟨fun v59 H =>
 o' (callP false s1 [[none]] [v59] H) ⟨fun v60 H =>
 q' (bn' .gtr v60 (.int .i64 1)) H ⟨fun v61 H =>
 e' [(1, fr 1), (3, fr 3), (5, fr 5), (6, fr 6), (61, v61)] H⟩⟩⟩⟩)
@[simp] def r17 (fr : AFr) (H : Hp) : ARes :=
 areg (q' (fa' 2 (fr 6)) H ⟨fun v63 H =>
 q' (ld' v63 H) H ⟨fun v64 H =>
 q' (z_aa (.sl 1) (fr 3) v64) H ⟨fun v66 H =>
 w' (z_ac (some 1) v66 (fr 5) H) ⟨fun _ H =>
 e' [(1, fr 1), (3, fr 3), (5, fr 5)] H⟩⟩⟩⟩)
@[simp] def r12 (fr : AFr) (H : Hp) : ARes :=
 areg (q' (bn' .add (fr 5) (.int .i64 1)) H ⟨fun v43 H =>
 e' [(1, fr 1), (3, fr 3), (5, v43)] H⟩)
@[simp] def r18 (fr : AFr) (H : Hp) : ARes :=
 areg (e' [(1, fr 1), (3, fr 3), (7, (.int .i64 0))] H)
@[simp] def r19 (fr : AFr) (H : Hp) : ARes :=
 areg (q' (fa' 2 (fr 1)) H ⟨fun v68 H =>
 q' (ld' v68 H) H ⟨fun v69 H =>
 q' (alenR .sl v69) H ⟨fun v70 H =>
 q' (bn' .lss (fr 7) v70) H ⟨fun v71 H =>
 e' [(1, fr 1), (3, fr 3), (7, fr 7), (71, v71)] H⟩⟩⟩⟩)
@[simp] def r21 (fr : AFr) (H : Hp) : ARes :=
 areg (q' (some (fr 3)) H ⟨fun v74 H1 =>
 q' (fa' 2 (fr 1)) H1 ⟨fun v75 H2 =>
 q' (ld' v75 H2) H2 ⟨fun v76 H3 =>
 q' (some (fr 7)) H3 ⟨fun v77 H4 =>
 q' (z_aa (.sl 1) v76 v77) H4 ⟨fun v78 H5 =>
 q' (ld' v78 H5) H5 ⟨fun v79 H6 =>
 q' (fa' 1 (fr 1)) H6 ⟨fun v80 H7 =>
 q' (ld' v80 H7) H7 ⟨fun v81 H8 =>
 q' (alenR .sl v81) H8 ⟨fun v82 H9 =>
 q' (z_aa (.sl 1) v74 v79) H9 ⟨fun v83 H10 =>
 w' (z_ac (some 1) v83 v82 H10) ⟨fun _ H11 =>
 e' [(1, fr 1), (3, fr 3), (7, fr 7)] H11⟩⟩⟩⟩⟩⟩⟩⟩⟩⟩⟩)
@[simp] def r20 (fr : AFr) (H : Hp) : ARes :=
 areg (q' (bn' .add (fr 7) (.int .i64 1)) H ⟨fun v73 H =>
 e' [(1, fr 1), (3, fr 3), (7, v73)] H⟩)
@[simp] def r22 (fr : AFr) (H : Hp) : ARes :=
 areg (e' [(2, (fr 3))] H)
def l0 (s0 s1 : SpecP) (fr : AFr) (H : Hp) : ARes :=
 s' (s' (r5 fr H) ⟨fun fr H =>
 c' (fr 20)
 ⟨some (.normal, fr, H)⟩
 ⟨some (.exit 0, fr, H)⟩⟩) ⟨fun fr H =>
 s' (aexit 1 (s' (r7 fr H) ⟨fun fr H =>
 c' (fr 26)
 ⟨r8 fr H⟩
 ⟨r9 fr H⟩⟩)) ⟨fun fr H =>
 r6 fr H⟩⟩
def l1 (s0 s1 : SpecP) (fr : AFr) (H : Hp) : ARes :=
 s' (s' (r11 fr H) ⟨fun fr H =>
 c' (fr 41)
 ⟨some (.normal, fr, H)⟩
 ⟨some (.exit 2, fr, H)⟩⟩) ⟨fun fr H =>
 s' (aexit 3 (s' (r13 fr H) ⟨fun fr H =>
 s' (s' (r14 s1 fr H) ⟨fun fr H =>
 c' (fr 52)
 ⟨r15 fr H⟩
 ⟨some (.normal, fr, H)⟩⟩) ⟨fun fr H =>
 s' (r16 s1 fr H) ⟨fun fr H =>
 c' (fr 61)
 ⟨r17 fr H⟩
 ⟨some (.normal, fr, H)⟩⟩⟩⟩)) ⟨fun fr H =>
 r12 fr H⟩⟩
def l2 (s0 s1 : SpecP) (fr : AFr) (H : Hp) : ARes :=
 s' (s' (r19 fr H) ⟨fun fr H =>
 c' (fr 71)
 ⟨some (.normal, fr, H)⟩
 ⟨some (.exit 4, fr, H)⟩⟩) ⟨fun fr H =>
 s' (aexit 5 (r21 fr H)) ⟨fun fr H =>
 r20 fr H⟩⟩
@[simp] def body (s0 s1 : SpecP) (fr : AFr) (H : Hp) : ARes :=
 s' (r0 fr H) ⟨fun fr H =>
 s' (r1 fr H) ⟨fun fr H =>
 s' (s' (r2 s0 fr H) ⟨fun fr H =>
 c' (fr 11)
 ⟨s' (r3 fr H) ⟨fun fr H =>
 some (.ret, fr, H)⟩⟩
 ⟨some (.normal, fr, H)⟩⟩) ⟨fun fr H =>
 s' (s' (r4 fr H) ⟨fun fr H =>
 aexit 0 (aloop (l0 s0 s1) fr H)⟩) ⟨fun fr H =>
 s' (s' (r10 fr H) ⟨fun fr H =>
 aexit 2 (aloop (l1 s0 s1) fr H)⟩) ⟨fun fr H =>
 s' (s' (r18 fr H) ⟨fun fr H =>
 aexit 4 (aloop (l2 s0 s1) fr H)⟩) ⟨fun fr H =>
 s' (r22 fr H) ⟨fun fr H =>
 some (.ret, fr, H)⟩⟩⟩⟩⟩⟩⟩
@[simp] def res (fr : AFr) (H : Hp) : Option (List AV) := res2 (some (fr 2)) (some [])
end z_bk
def z_bk (a0 : AV) : Option AV := z_ap (some [[some 1]]) (afinR z_bk.res (z_bk.body z_bg.spec z_a4.spec (args0 [a0]) Hp.empty))
def z_bk.spec : List AV → Option AV
 | [a0] => z_bk a0
 | _ => none
namespace z_bh
def C (s0 s1 : SpecP) : Tab := ((Tab.none.add 36 (.pure false s0)).add 122 (.pure false s1))
@[simp] def r0 (fr : AFr) (H : Hp) : ARes :=
 areg (o' (abox T.ty_api_Code (fr 0) H) ⟨fun v1 H =>
 e' [(1, v1)] H⟩)
@[simp] def r1 (s0 : SpecP) (fr : AFr) (H : Hp) : ARes :=
 areg (q' (Ld' 3 (fr 1) H) H ⟨fun v14 H =>
 o' (callP false s0 [[none, some 4, some 1]] [v14] H) ⟨fun v15 H =>
 q' (aun .not v15) H ⟨fun v16 H =>
 e' [(1, fr 1), (16, v16)] H⟩⟩⟩)
@[simp] def r2 (fr : AFr) (H : Hp) : ARes :=
 areg (o' (z_ae (some ⟨T.ty_int, 1, 8, [(.int .i64 0)]⟩) 0 [] H) ⟨fun v17 H =>
 e' [(2, v17), (3, (.int .i64 0)), (4, (.int .i64 1))] H⟩)
@[simp] def r3 (s1 : SpecP) (fr : AFr) (H : Hp) : ARes :=
 areg (q' (fa' 0 (fr 1)) H ⟨fun v18 H1 =>
 q' (ld' v18 H1) H1 ⟨fun v19 H2 =>
 q' (fa' 1 (fr 1)) H2 ⟨fun v20 H3 =>
 q' (ld' v20 H3) H3 ⟨fun v21 H4 =>
 q' (alenR .sl v21) H4 ⟨fun v22 H5 =>
 q' (bn' .add v19 v22) H5 ⟨fun v23 H6 =>
 o' (z_gs (some ⟨T.ty_int, 1, 8, [(.int .i64 0)]⟩) v23 v23 H6) ⟨fun v24 H7 =>
 q' (Ld' 3 (fr 1) H7) H7 ⟨fun v25 H8 =>
 o' (callP false s1 [[none, some 4, some 1]] [v25] H8) ⟨fun v26 H9 =>
 q' (fa' 0 (fr 1)) H9 ⟨fun v27 H10 =>
 q' (ld' v27 H10) H10 ⟨fun v28 H11 =>
 q' (fa' 2 (fr 1)) H11 ⟨fun v29 H12 =>
 q' (ld' v29 H12) H12 ⟨fun v30 H13 =>
 q' (alenR .sl v30) H13 ⟨fun v31 H14 =>
 q' (bn' .add v28 v31) H14 ⟨fun v32 H15 =>
 o' (z_ae (some ⟨T.ty_int, 1, 8, [(.int .i64 0)]⟩) 0 [] H15) ⟨fun v33 H16 =>
 q' (some v24) H16 ⟨fun v5 H17 =>
 q' (some v26) H17 ⟨fun v6 H18 =>
 q' (some v32) H18 ⟨fun v7 H19 =>
 q' (some v33) H19 ⟨fun v8 H20 =>
 z_bw [z_am (some none) v18 H8 = z_am (some none) v18 H9, z_am (some none) v20 H8 = z_am (some none) v20 H9, z_am (some none) v27 H8 = z_am (some none) v27 H9, z_am (some none) v29 H8 = z_am (some none) v29 H9] (e' [(1, fr 1), (5, v5), (6, v6), (7, v7), (8, v8)] H20)⟩⟩⟩⟩⟩⟩⟩⟩⟩⟩⟩⟩⟩⟩⟩⟩⟩⟩⟩⟩)
@[simp] def r4 (fr : AFr) (H : Hp) : ARes :=
 areg (e' [(1, fr 1), (5, fr 5), (6, fr 6), (7, fr 7), (8, fr 8), (9, (.int .i64 0))] H)
@[simp] def r5 (fr : AFr) (H : Hp) : ARes :=
 areg (q' (fa' 0 (fr 1)) H ⟨fun v35 H =>
 q' (ld' v35 H) H ⟨fun v36 H =>
 q' (bn' .lss (fr 9) v36) H ⟨fun v37 H =>
 e' [(1, fr 1), (5, fr 5), (6, fr 6), (7, fr 7), (8, fr 8), (9, fr 9), (37, v37)] H⟩⟩⟩)
@[simp] def r7 (fr : AFr) (H : Hp) : ARes :=
 areg (q' (z_aa (.sl 1) (fr 5) (fr 9)) H ⟨fun v43 H =>
 w' (z_ac (some 1) v43 (fr 9) H) ⟨fun _ H =>
 e' [(1, fr 1), (5, fr 5), (6, fr 6), (7, fr 7), (8, fr 8), (9, fr 9)] H⟩⟩)
@[simp] def r6 (fr : AFr) (H : Hp) : ARes :=
 areg (q' (bn' .add (fr 9) (.int .i64 1)) H ⟨fun v39 H =>
 e' [(1, fr 1), (5, fr 5), (6, fr 6), (7, fr 7), (8, fr 8), (9, v39)] H⟩)
@[simp] def r8 (fr : AFr) (H : Hp) : ARes :=
 areg (e' [(1, fr 1), (5, fr 5), (6, fr 6), (7, fr 7), (8, fr 8), (10, (.int .i64 0))] H)
@[simp] def r9 (fr : AFr) (H : Hp) : ARes :=
 areg (q' (fa' 2 (fr 1)) H ⟨fun v45 H =>
 q' (ld' v45 H) H ⟨fun v46 H =>
 q' (alenR .sl v46) H ⟨fun v47 H =>
 q' (bn' .lss (fr 10) v47) H ⟨fun v48 H =>
 e' [(1, fr 1), (5, fr 5), (6, fr 6), (7, fr 7), (8, fr 8), (10, fr 10), (48, v48)] H⟩⟩⟩⟩)
@[simp] def r11 (fr : AFr) (H : Hp) : ARes :=
 areg (q' (some (fr 5)) H ⟨fun v51 H1 =>
 q' (fa' 2 (fr 1)) H1 ⟨fun v52 H2 =>
 q' (ld' v52 H2) H2 ⟨fun v53 H3 =>
 q' (some (fr 10)) H3 ⟨fun v54 H4 =>
 q' (z_aa (.sl 1) v53 v54) H4 ⟨fun v55 H5 =>
 q' (ld' v55 H5) H5 ⟨fun v56 H6 =>
 q' (fa' 0 (fr 1)) H6 ⟨fun v57 H7 =>
 q' (ld' v57 H7) H7 ⟨fun v58 H8 =>
 q' (some (fr 10)) H8 ⟨fun v59 H9 =>
 q' (bn' .add v58 v59) H9 ⟨fun v60 H10 =>
 q' (z_aa (.sl 1) v51 v56) H10 ⟨fun v61 H11 =>
 w' (z_ac (some 1) v61 v60 H11) ⟨fun _ H12 =>
 e' [(1, fr 1), (5, fr 5), (6, fr 6), (7, fr 7), (8, fr 8), (10, fr 10)] H12⟩⟩⟩⟩⟩⟩⟩⟩⟩⟩⟩⟩)
@[simp] def r10 (fr : AFr) (H : Hp) : ARes :=
 areg (q' (bn' .add (fr 10) (.int .i64 1)) H ⟨fun v50 H =>
 e' [(1, fr 1), (5, fr 5), (6, fr 6), (7, fr 7), (8, fr 8), (10, v50)] H⟩)
@[simp] def r12 (fr : AFr) (H : Hp) : ARes :=
 areg (e' [(1, fr 1), (5, fr 5), (6, fr 6), (7, fr 7), (8, fr 8), (11, (.int .i64 0))] H)
@[simp] def r13 (fr : AFr) (H : Hp) : ARes :=
 areg (q' (fa' 1 (fr 1)) H ⟨fun v63 H =>
 q' (ld' v63 H) H ⟨fun v64 H =>
 q' (alenR .sl v64) H ⟨fun v65 H =>
 q' (bn' .lss (fr 11) v65) H ⟨fun v66 H =>
 e' [(1, fr 1), (5, fr 5), (6, fr 6), (7, fr 7), (8, fr 8), (11, fr 11), (66, v66)] H⟩⟩⟩⟩)
@[simp] def r15 (fr : AFr) (H : Hp) : ARes :=
 areg (q' (fa' 0 (fr 1)) H ⟨fun v69 H =>
 q' (ld' v69 H) H ⟨fun v70 H =>
 q' (bn' .add v70 (fr 11)) H ⟨fun v72 H =>
 e' [(1, fr 1), (5, fr 5), (6, fr 6), (7, fr 7), (8, fr 8), (11, fr 11), (12, v72)] H⟩⟩⟩)
@[simp] def r16 (fr : AFr) (H : Hp) : ARes :=
 areg (q' (some (fr 6)) H ⟨fun v73 H1 =>
 q' (some (fr 12)) H1 ⟨fun v74 H2 =>
 q' (z_aa (.sl 1) v73 v74) H2 ⟨fun v75 H3 =>
 q' (ld' v75 H3) H3 ⟨fun v76 H4 =>
 q' (fa' 1 (fr 1)) H4 ⟨fun v77 H5 =>
 q' (ld' v77 H5) H5 ⟨fun v78 H6 =>
 q' (alenR .sl v78) H6 ⟨fun v79 H7 =>
 q' (bn' .eql v76 v79) H7 ⟨fun v80 H8 =>
 e' [(1, fr 1), (5, fr 5), (6, fr 6), (7, fr 7), (8, fr 8), (11, fr 11), (12, fr 12), (80, v80)] H8⟩⟩⟩⟩⟩⟩⟩⟩)
@[simp] def r17 (fr : AFr) (H : Hp) : ARes :=
 areg (e' [(1, fr 1), (5, fr 5), (6, fr 6), (7, fr 7), (8, fr 8), (11, fr 11), (12, fr 12), (13, (.int .i64 0))] H)
@[simp] def r18 (fr : AFr) (H : Hp) : ARes :=
 areg (q' (alenR .sl (fr 8)) H ⟨fun v83 H =>
 q' (bn' .lss (fr 13) v83) H ⟨fun v84 H =>
 G' v84 true ⟨some (fr 8)⟩ H ⟨fun v86 H =>
 G' v84 true ⟨some (fr 13)⟩ H ⟨fun v87 H =>
 G' v84 true ⟨z_aa (.sl 1) v86 v87⟩ H ⟨fun v88 H =>
 G' v84 true ⟨ld' v88 H⟩ H ⟨fun v89 H =>
 G' v84 true ⟨some (fr 11)⟩ H ⟨fun v90 H =>
 G' v84 true ⟨bn' .geq v89 v90⟩ H ⟨fun v91 H =>
 q' (apick v84 v91 (.bool false)) H ⟨fun v92 H =>
 e' [(1, fr 1), (5, fr 5), (6, fr 6), (7, fr 7), (8, fr 8), (11, fr 11), (12, fr 12), (13, fr 13), (92, v92)] H⟩⟩⟩⟩⟩⟩⟩⟩⟩)
@[simp] def r19 (fr : AFr) (H : Hp) : ARes :=
 areg (q' (bn' .add (fr 13) (.int .i64 1)) H ⟨fun v94 H =>
 e' [(1, fr 1), (5, fr 5), (6, fr 6), (7, fr 7), (8, fr 8), (11, fr 11), (12, fr 12), (13, v94)] H⟩)
@[simp] def r20 (fr : AFr) (H : Hp) : ARes :=
 areg (q' (alenR .sl (fr 8)) H ⟨fun v97 H =>
 q' (bn' .eql (fr 13) v97) H ⟨fun v98 H =>
 e' [(1, fr 1), (5, fr 5), (6, fr 6), (7, fr 7), (8, fr 8), (11, fr 11), (12, fr 12), (13, fr 13), (98, v98)] H⟩⟩)
@[simp] def r21 (fr : AFr) (H : Hp) : ARes :=
 areg (o' (z_ae (some ⟨T.ty_int, 1, 8, [(.int .i64 0)]⟩) 1 [(0, (.int .i64 0))] H) ⟨fun v100 H =>
 o' (z_bt (some ⟨T.ty_int, 1, 8, [(.int .i64 0)]⟩) (fr 8) v100 H) ⟨fun v101 H =>
 e' [(1, fr 1), (5, fr 5), (6, fr 6), (7, fr 7), (8, v101), (11, fr 11), (12, fr 12), (13, fr 13)] H⟩⟩)
@[simp] def r22 (fr : AFr) (H : Hp) : ARes :=
 areg (q' (z_aa (.sl 1) (fr 6) (fr 12)) H ⟨fun v108 H =>
 q' (ld' v108 H) H ⟨fun v109 H =>
 q' (bn' .add (fr 7) (fr 13)) H ⟨fun v112 H =>
 q' (z_aa (.sl 1) (fr 8) (fr 13)) H ⟨fun v113 H =>
 w' (z_ac (some 1) v113 v109 H) ⟨fun _ H =>
 q' (z_aa (.sl 1) (fr 5) (fr 12)) H ⟨fun v114 H =>
 w' (z_ac (some 1) v114 v112 H) ⟨fun _ H =>
 e' [(1, fr 1), (5, fr 5), (6, fr 6), (7, fr 7), (8, fr 8), (11, fr 11)] H⟩⟩⟩⟩⟩⟩⟩)
@[simp] def r14 (fr : AFr) (H : Hp) : ARes :=
 areg (q' (bn' .add (fr 11) (.int .i64 1)) H ⟨fun v68 H =>
 e' [(1, fr 1), (5, fr 5), (6, fr 6), (7, fr 7), (8, fr 8), (11, v68)] H⟩)
@[simp] def r23 (fr : AFr) (H : Hp) : ARes :=
 areg (q' (alenR .sl (fr 8)) H ⟨fun v117 H =>
 q' (bn' .add (fr 7) v117) H ⟨fun v118 H =>
 q' (bn' .gtr v118 (.int .i64 16000)) H ⟨fun v119 H =>
 e' [(5, fr 5), (7, fr 7), (8, fr 8), (119, v119)] H⟩⟩⟩)
@[simp] def r24 (fr : AFr) (H : Hp) : ARes :=
 areg (o' (z_ae (some ⟨T.ty_int, 1, 8, [(.int .i64 0)]⟩) 0 [] H) ⟨fun v120 H =>
 e' [(2, v120), (3, (.int .i64 0)), (4, (.int .i64 150))] H⟩)
@[simp] def r25 (fr : AFr) (H : Hp) : ARes :=
 areg (q' (alenR .sl (fr 8)) H ⟨fun v124 H =>
 q' (bn' .add (fr 7) v124) H ⟨fun v125 H =>
 e' [(2, (fr 5)), (3, v125), (4, (.int .i64 0))] H⟩⟩)
def l0 (s0 s1 : SpecP) (fr : AFr) (H : Hp) : ARes :=
 s' (s' (r5 fr H) ⟨fun fr H =>
 c' (fr 37)
 ⟨some (.normal, fr, H)⟩
 ⟨some (.exit 0, fr, H)⟩⟩) ⟨fun fr H =>
 s' (aexit 1 (r7 fr H)) ⟨fun fr H =>
 r6 fr H⟩⟩
def l1 (s0 s1 : SpecP) (fr : AFr) (H : Hp) : ARes :=
 s' (s' (r9 fr H) ⟨fun fr H =>
 c' (fr 48)
 ⟨some (.normal, fr, H)⟩
 ⟨some (.exit 2, fr, H)⟩⟩) ⟨fun fr H =>
 s' (aexit 3 (r11 fr H)) ⟨fun fr H =>
 r10 fr H⟩⟩
def l3 (s0 s1 : SpecP) (fr : AFr) (H : Hp) : ARes :=
 s' (s' (r18 fr H) ⟨fun fr H =>
 c' (fr 92)
 ⟨some (.normal, fr, H)⟩
 ⟨some (.exit 6, fr, H)⟩⟩) ⟨fun fr H =>
 aexit 7 (r19 fr H)⟩
def l2 (s0 s1 : SpecP) (fr : AFr) (H : Hp) : ARes :=
 s' (s' (r13 fr H) ⟨fun fr H =>
 c' (fr 66)
 ⟨some (.normal, fr, H)⟩
 ⟨some (.exit 4, fr, H)⟩⟩) ⟨fun fr H =>
 s' (aexit 5 (s' (r15 fr H) ⟨fun fr H =>
 s' (s' (r16 fr H) ⟨fun fr H =>
 c' (fr 80)
 ⟨some (.exit 5, fr, H)⟩
 ⟨some (.normal, fr, H)⟩⟩) ⟨fun fr H =>
 s' (r17 fr H) ⟨fun fr H =>
 s' (aexit 6 (aloop (l3 s0 s1) fr H)) ⟨fun fr H =>
 s' (s' (r20 fr H) ⟨fun fr H =>
 c' (fr 98)
 ⟨r21 fr H⟩
 ⟨some (.normal, fr, H)⟩⟩) ⟨fun fr H =>
 r22 fr H⟩⟩⟩⟩⟩)) ⟨fun fr H =>
 r14 fr H⟩⟩
@[simp] def body (s0 s1 : SpecP) (fr : AFr) (H : Hp) : ARes :=
 s' (r0 fr H) ⟨fun fr H =>
 s' (s' (r1 s0 fr H) ⟨fun fr H =>
 c' (fr 16)
 ⟨s' (r2 fr H) ⟨fun fr H =>
 some (.ret, fr, H)⟩⟩
 ⟨some (.normal, fr, H)⟩⟩) ⟨fun fr H =>
 s' (r3 s1 fr H) ⟨fun fr H =>
 s' (s' (r4 fr H) ⟨fun fr H =>
 aexit 0 (aloop (l0 s0 s1) fr H)⟩) ⟨fun fr H =>
 s' (s' (r8 fr H) ⟨fun fr H =>
 aexit 2 (aloop (l1 s0 s1) fr H)⟩) ⟨fun fr H =>
 s' (s' (r12 fr H) ⟨fun fr H =>
 aexit 4 (aloop (l2 s0 s1) fr H)⟩) ⟨fun fr H =>
 s' (s' (r23 fr H) ⟨fun fr H =>
 c' (fr 119)
 ⟨s' (r24 fr H) ⟨fun fr H =>
 some (.ret, fr, H)⟩⟩
 ⟨some (.normal, fr, H)⟩⟩) ⟨fun fr H =>
 s' (r25 fr H) ⟨fun fr H =>
 some (.ret, fr, H)⟩⟩⟩⟩⟩⟩⟩⟩
@[simp] def res (fr : AFr) (H : Hp) : Option (List AV) := res2 (some (fr 2)) (res2 (some (fr 3)) (res2 (some (fr 4)) (some [])))
end z_bh
def z_bh (a0 : AV) : Option AV := z_ap (some [[some 1], [none], [none]]) (afinR z_bh.res (z_bh.body z_b0.spec z_bk.spec (args0 [a0]) Hp.empty))
def z_bh.spec : List AV → Option AV
 | [a0] => z_bh a0
 | _ => none
end
end Go.Abs
end
