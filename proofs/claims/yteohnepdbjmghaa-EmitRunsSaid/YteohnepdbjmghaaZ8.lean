/-
  The functions, as they are over abstract values. Printed by gen.py.
-/
import Derived.Test.YteohnepdbjmghaaZ5
import Derived.Test.YteohnepdbjmghaaZ6
import Derived.Test.YteohnepdbjmghaaZ7
import Derived.Test.YteohnepdbjmghaaZ3
import Derived.Test.YteohnepdbjmghaaProg
import Derived.KernelRfl
import Derived.Test.YteohnepdbjmghaaZ4
set_option linter.unusedSimpArgs false
set_option linter.unusedVariables false
set_option maxHeartbeats 20000000
set_option maxRecDepth 100000
section
namespace Go.Abs
noncomputable section
namespace z_cr
def C (s0 s1 : SpecP) : Tab := ((Tab.none.add 22 (.pure false s0)).add 25 (.pure false s1))
@[simp] def r0 (fr : AFr) (H : Hp) : ARes :=
 areg (e' [] H)
@[simp] def r1 (s0 s1 : SpecP) (fr : AFr) (H : Hp) : ARes :=
 areg (q' (z_a6 (.str [(.int .i64 0), (.int .i64 0), (.int .i64 0), (W32 0#32)] [(0, 1), (1, 1), (2, 1), (3, 1)]) [(0, (.int .i64 3))]) H ⟨fun v1 H =>
 o' (z_ad (some ⟨T.ty_int, 1, 8, [(.int .i64 0)]⟩) 1 [(0, (.int .i64 0))] H) ⟨fun v2 H =>
 o' (callP false s0 [[none, none, none, none], [none], [some 1]] [v1, (.int .i64 1), v2] H) ⟨fun v3 H =>
 o' (z_ad (some ⟨T.ty_string, 1, 16, [(.str (bs []))]⟩) 6 [(0, (.str (bs [109, 111, 118, 115, 32, 114, 48, 44, 32, 35, 48]))), (1, (.str (bs [109, 111, 118, 115, 32, 114, 54, 44, 32, 35, 48]))), (2, (.str (bs [108, 100, 114, 32, 114, 48, 44, 32, 91, 114, 55, 44, 32, 114, 54, 93]))), (3, (.str (bs [109, 118, 110, 115, 32, 114, 48, 44, 32, 114, 48]))), (4, (.str (bs [109, 111, 118, 115, 32, 114, 54, 44, 32, 35, 52]))), (5, (.str (bs [115, 116, 114, 32, 114, 48, 44, 32, 91, 114, 55, 44, 32, 114, 54, 93])))] H) ⟨fun v4 H =>
 o' (callP false s1 [[some 5], [some 1]] [v3, v4] H) ⟨fun v5 H =>
 e' [(0, v5)] H⟩⟩⟩⟩⟩)
@[simp] def body (s0 s1 : SpecP) (fr : AFr) (H : Hp) : ARes :=
 s' (r0 fr H) ⟨fun fr H =>
 s' (r1 s0 s1 fr H) ⟨fun fr H =>
 some (.ret, fr, H)⟩⟩
@[simp] def res (fr : AFr) (H : Hp) : Option (List AV) := res2 (some (fr 0)) (some [])
end z_cr
def z_cr : Option AV := z_ar (some [[none]]) (afinR z_cr.res (z_cr.body z_c0.spec z_cw.spec (args0 []) Hp.empty))
def z_cr.spec : List AV → Option AV
 | [] => z_cr
 | _ => none
namespace z_cz
def C : Tab := Tab.none
@[simp] def r0 (fr : AFr) (H : Hp) : ARes :=
 areg (o' (abox T.ty_api_Code (fr 0) H) ⟨fun v1 H =>
 e' [(1, v1)] H⟩)
@[simp] def r1 (fr : AFr) (H : Hp) : ARes :=
 areg (q' (fa' 1 (fr 1)) H ⟨fun v3 H =>
 q' (ld' v3 H) H ⟨fun v4 H =>
 q' (alenR .sl v4) H ⟨fun v5 H =>
 q' (bn' .leq v5 (.int .i64 120)) H ⟨fun v6 H =>
 G' v6 true ⟨fa' 2 (fr 1)⟩ H ⟨fun v8 H =>
 G' v6 true ⟨ld' v8 H⟩ H ⟨fun v9 H =>
 G' v6 true ⟨alenR .sl v9⟩ H ⟨fun v10 H =>
 G' v6 true ⟨bn' .leq v10 (.int .i64 100)⟩ H ⟨fun v11 H =>
 q' (apick v6 v11 (.bool false)) H ⟨fun v12 H =>
 G' v12 true ⟨fa' 0 (fr 1)⟩ H ⟨fun v14 H =>
 G' v12 true ⟨ld' v14 H⟩ H ⟨fun v15 H =>
 G' v12 true ⟨bn' .leq v15 (.int .i64 200)⟩ H ⟨fun v16 H =>
 q' (apick v12 v16 (.bool false)) H ⟨fun v17 H =>
 e' [(2, v17)] H⟩⟩⟩⟩⟩⟩⟩⟩⟩⟩⟩⟩⟩)
@[simp] def body (fr : AFr) (H : Hp) : ARes :=
 s' (r0 fr H) ⟨fun fr H =>
 s' (r1 fr H) ⟨fun fr H =>
 some (.ret, fr, H)⟩⟩
@[simp] def res (fr : AFr) (H : Hp) : Option (List AV) := res2 (some (fr 2)) (some [])
end z_cz
def z_cz (a0 : AV) : Option AV := z_ar (some [[none]]) (afinR z_cz.res (z_cz.body (args0 [a0]) Hp.empty))
def z_cz.spec : List AV → Option AV
 | [a0] => z_cz a0
 | _ => none
namespace z_c3
def C (s0 s1 s2 : SpecP) : Tab := (((Tab.none.add 84 (.pure false s0)).add 33 (.pure false s1)).add 32 (.pure false s2))
@[simp] def r0 (fr : AFr) (H : Hp) : ARes :=
 areg (o' (abox T.ty_api_Code (fr 0) H) ⟨fun v1 H =>
 e' [(1, v1)] H⟩)
@[simp] def r1 (s0 : SpecP) (fr : AFr) (H : Hp) : ARes :=
 areg (q' (Ld' 3 (fr 1) H) H ⟨fun v11 H =>
 o' (callP false s0 [[none, some 4, some 1]] [v11] H) ⟨fun v12 H =>
 q' (aextract v12 0) H ⟨fun v13 H =>
 q' (aextract v12 1) H ⟨fun v14 H =>
 q' (aextract v12 2) H ⟨fun v15 H =>
 e' [(1, fr 1), (5, v13), (6, v14), (7, v15)] H⟩⟩⟩⟩⟩)
@[simp] def r2 (fr : AFr) (H : Hp) : ARes :=
 areg (q' (bn' .neq (fr 7) (.int .i64 0)) H ⟨fun v17 H =>
 e' [(1, fr 1), (5, fr 5), (6, fr 6), (17, v17)] H⟩)
@[simp] def r3 (fr : AFr) (H : Hp) : ARes :=
 areg (e' [(2, .nils), (3, (.int .i64 0)), (4, (.bool false))] H)
@[simp] def r4 (s1 s2 : SpecP) (fr : AFr) (H : Hp) : ARes :=
 areg (q' (Ld' 3 (fr 1) H) H ⟨fun v19 H =>
 o' (callP false s1 [[none, some 4, some 1]] [v19] H) ⟨fun v20 H =>
 o' (z_ad (some ⟨T.ty_int, 1, 8, [(.int .i64 0)]⟩) 0 [] H) ⟨fun v21 H =>
 o' (z_bs (some ⟨T.ty_int, 1, 8, [(.int .i64 0)]⟩) v21 (fr 5) H) ⟨fun v23 H =>
 o' (callP false s2 [[none, some 4, some 1], [some 1]] [v20, v23] H) ⟨fun v24 H =>
 q' (aextract v24 0) H ⟨fun v25 H =>
 q' (aextract v24 1) H ⟨fun v26 H =>
 e' [(6, fr 6), (8, v25), (9, v26)] H⟩⟩⟩⟩⟩⟩⟩)
@[simp] def r5 (fr : AFr) (H : Hp) : ARes :=
 areg (q' (bn' .eql (fr 9) (.int .i64 0)) H ⟨fun v30 H =>
 e' [(2, (fr 8)), (3, (fr 6)), (4, v30)] H⟩)
@[simp] def body (s0 s1 s2 : SpecP) (fr : AFr) (H : Hp) : ARes :=
 s' (r0 fr H) ⟨fun fr H =>
 s' (r1 s0 fr H) ⟨fun fr H =>
 s' (s' (r2 fr H) ⟨fun fr H =>
 c' (fr 17)
 ⟨s' (r3 fr H) ⟨fun fr H =>
 some (.ret, fr, H)⟩⟩
 ⟨some (.normal, fr, H)⟩⟩) ⟨fun fr H =>
 s' (r4 s1 s2 fr H) ⟨fun fr H =>
 s' (r5 fr H) ⟨fun fr H =>
 some (.ret, fr, H)⟩⟩⟩⟩⟩
@[simp] def res (fr : AFr) (H : Hp) : Option (List AV) := res2 (some (fr 2)) (res2 (some (fr 3)) (res2 (some (fr 4)) (some [])))
end z_c3
def z_c3 (a0 : AV) : Option AV := z_ar (some [[some 1], [none], [none]]) (afinR z_c3.res (z_c3.body z_bk.spec z_dn.spec z_cc.spec (args0 [a0]) Hp.empty))
def z_c3.spec : List AV → Option AV
 | [a0] => z_c3 a0
 | _ => none
namespace z_co
def C : Tab := Tab.none
@[simp] def r0 (fr : AFr) (H : Hp) : ARes :=
 areg (e' [(0, fr 0), (1, fr 1)] H)
@[simp] def r1 (fr : AFr) (H : Hp) : ARes :=
 areg (o' (z_ad (some ⟨T.ty_uint32, 1, 4, [(W32 0#32)]⟩) 0 [] H) ⟨fun v8 H =>
 e' [(0, fr 0), (1, fr 1), (5, v8)] H⟩)
@[simp] def r2 (fr : AFr) (H : Hp) : ARes :=
 areg (e' [(0, fr 0), (1, fr 1), (5, fr 5), (6, (.int .i64 0))] H)
@[simp] def r3 (fr : AFr) (H : Hp) : ARes :=
 areg (q' (bn' .lss (fr 6) (fr 1)) H ⟨fun v11 H =>
 e' [(0, fr 0), (1, fr 1), (5, fr 5), (6, fr 6), (11, v11)] H⟩)
@[simp] def r5 (fr : AFr) (H : Hp) : ARes :=
 areg (q' (z_dp (some .u32) (fr 6)) H ⟨fun v15 H =>
 q' (bn' .mul v15 (W32 2654435761#32)) H ⟨fun v16 H =>
 e' [(0, fr 0), (1, fr 1), (5, fr 5), (6, fr 6), (7, v16)] H⟩⟩)
@[simp] def r6 (fr : AFr) (H : Hp) : ARes :=
 areg (q' (alenR .sl (fr 0)) H ⟨fun v18 H =>
 q' (bn' .gtr v18 (.int .i64 0)) H ⟨fun v19 H =>
 e' [(0, fr 0), (1, fr 1), (5, fr 5), (6, fr 6), (7, fr 7), (19, v19)] H⟩⟩)
@[simp] def r7 (fr : AFr) (H : Hp) : ARes :=
 areg (q' (alenR .sl (fr 0)) H ⟨fun v24 H =>
 q' (bn' .rem (fr 6) v24) H ⟨fun v25 H =>
 q' (z_aa (.sl 1) (fr 0) v25) H ⟨fun v26 H =>
 q' (ld' v26 H) H ⟨fun v27 H =>
 q' (bn' .xor (fr 7) v27) H ⟨fun v28 H =>
 e' [(0, fr 0), (1, fr 1), (5, fr 5), (6, fr 6), (7, v28)] H⟩⟩⟩⟩⟩)
@[simp] def r8 (fr : AFr) (H : Hp) : ARes :=
 areg (o' (z_ad (some ⟨T.ty_uint32, 1, 4, [(W32 0#32)]⟩) 1 [(0, (fr 7))] H) ⟨fun v31 H =>
 o' (z_bs (some ⟨T.ty_uint32, 1, 4, [(W32 0#32)]⟩) (fr 5) v31 H) ⟨fun v32 H =>
 e' [(0, fr 0), (1, fr 1), (5, v32), (6, fr 6)] H⟩⟩)
@[simp] def r4 (fr : AFr) (H : Hp) : ARes :=
 areg (q' (bn' .add (fr 6) (.int .i64 1)) H ⟨fun v13 H =>
 e' [(0, fr 0), (1, fr 1), (5, fr 5), (6, v13)] H⟩)
@[simp] def r9 (fr : AFr) (H : Hp) : ARes :=
 areg (e' [(4, (fr 5))] H)
def l0 (fr : AFr) (H : Hp) : ARes :=
 s' (s' (r3 fr H) ⟨fun fr H =>
 c' (fr 11)
 ⟨some (.normal, fr, H)⟩
 ⟨some (.exit 0, fr, H)⟩⟩) ⟨fun fr H =>
 s' (aexit 1 (s' (r5 fr H) ⟨fun fr H =>
 s' (s' (r6 fr H) ⟨fun fr H =>
 c' (fr 19)
 ⟨r7 fr H⟩
 ⟨some (.normal, fr, H)⟩⟩) ⟨fun fr H =>
 r8 fr H⟩⟩)) ⟨fun fr H =>
 r4 fr H⟩⟩
@[simp] def body (fr : AFr) (H : Hp) : ARes :=
 s' (r0 fr H) ⟨fun fr H =>
 s' (r1 fr H) ⟨fun fr H =>
 s' (s' (r2 fr H) ⟨fun fr H =>
 aexit 0 (aloop (l0) fr H)⟩) ⟨fun fr H =>
 s' (r9 fr H) ⟨fun fr H =>
 some (.ret, fr, H)⟩⟩⟩⟩
@[simp] def res (fr : AFr) (H : Hp) : Option (List AV) := res2 (some (fr 4)) (some [])
end z_co
def z_co (a0 a1 : AV) : Option AV := z_ar (some [[some 1]]) (afinR z_co.res (z_co.body (args0 [a0, a1]) Hp.empty))
def z_co.spec : List AV → Option AV
 | [a0, a1] => z_co a0 a1
 | _ => none
namespace law25_EmitRuns
def C (s0 s1 s2 s3 s4 s5 s6 s7 : SpecP) : Tab := ((((((((Tab.none.add 31 (.pure false s0)).add 36 (.pure false s1)).add 24 (.pure false s2)).add 37 (.pure false s3)).add 39 (.pure false s4)).add 38 (.pure false s5)).add 40 (.pure false s6)).add 41 (.pure false s7))
@[simp] def r0 (fr : AFr) (H : Hp) : ARes :=
 areg (o' (abox T.ty_api_Code (fr 0) H) ⟨fun v3 H =>
 e' [(1, fr 1), (2, fr 2), (3, v3)] H⟩)
@[simp] def r1 (s0 s1 : SpecP) (fr : AFr) (H : Hp) : ARes :=
 areg (q' (Ld' 3 (fr 3) H) H ⟨fun v17 H =>
 o' (callP false s0 [[none, some 4, some 1]] [v17] H) ⟨fun v18 H =>
 q' (aun .not v18) H ⟨fun v19 H =>
 G' v19 false ⟨Ld' 3 (fr 3) H⟩ H ⟨fun v21 H =>
 o' (g' (gw v19 false) ⟨callP false s1 [[none, some 4, some 1]] [v21] H⟩ H) ⟨fun v22 H =>
 G' v19 false ⟨aun .not v22⟩ H ⟨fun v23 H =>
 q' (apick v19 (.bool true) v23) H ⟨fun v24 H =>
 e' [(1, fr 1), (2, fr 2), (3, fr 3), (24, v24)] H⟩⟩⟩⟩⟩⟩⟩)
@[simp] def r2 (s2 : SpecP) (fr : AFr) (H : Hp) : ARes :=
 areg (o' (callP false s2 [] [] H) ⟨fun v25 H =>
 e' [(6, v25)] H⟩)
@[simp] def r3 (s3 : SpecP) (fr : AFr) (H : Hp) : ARes :=
 areg (q' (Ld' 3 (fr 3) H) H ⟨fun v27 H =>
 o' (callP false s3 [[none, some 4, some 1]] [v27] H) ⟨fun v28 H =>
 q' (aextract v28 0) H ⟨fun v29 H =>
 q' (aextract v28 1) H ⟨fun v30 H =>
 q' (aextract v28 2) H ⟨fun v31 H =>
 e' [(1, fr 1), (2, fr 2), (3, fr 3), (7, v29), (8, v30), (9, v31)] H⟩⟩⟩⟩⟩)
@[simp] def r4 (fr : AFr) (H : Hp) : ARes :=
 areg (q' (aun .not (fr 9)) H ⟨fun v33 H =>
 e' [(1, fr 1), (2, fr 2), (3, fr 3), (7, fr 7), (8, fr 8), (33, v33)] H⟩)
@[simp] def r5 (fr : AFr) (H : Hp) : ARes :=
 areg (e' [(6, (.bool false))] H)
@[simp] def r6 (s4 s5 : SpecP) (fr : AFr) (H : Hp) : ARes :=
 areg (q' (some (fr 8)) H ⟨fun v34 H1 =>
 o' (z_f7 (some ⟨T.ty_uint32, 1, 4, [(W32 0#32)]⟩) v34 v34 H1) ⟨fun v35 H2 =>
 q' (some (fr 2)) H2 ⟨fun v36 H3 =>
 q' (Ld' 3 (fr 3) H3) H3 ⟨fun v37 H4 =>
 o' (callP false s4 [[none, some 4, some 1]] [v37] H4) ⟨fun v38 H5 =>
 o' (callP false s5 [[some 1], [none]] [v36, v38] H5) ⟨fun v39 H6 =>
 q' (some v35) H6 ⟨fun v10 H7 =>
 q' (some v39) H7 ⟨fun v11 H8 =>
 e' [(1, fr 1), (3, fr 3), (7, fr 7), (8, fr 8), (10, v10), (11, v11)] H8⟩⟩⟩⟩⟩⟩⟩⟩)
@[simp] def r7 (fr : AFr) (H : Hp) : ARes :=
 areg (e' [(1, fr 1), (3, fr 3), (7, fr 7), (8, fr 8), (10, fr 10), (11, fr 11), (12, (.int .i64 0))] H)
@[simp] def r8 (fr : AFr) (H : Hp) : ARes :=
 areg (q' (fa' 0 (fr 3)) H ⟨fun v41 H =>
 q' (ld' v41 H) H ⟨fun v42 H =>
 q' (bn' .lss (fr 12) v42) H ⟨fun v43 H =>
 e' [(1, fr 1), (3, fr 3), (7, fr 7), (8, fr 8), (10, fr 10), (11, fr 11), (12, fr 12), (43, v43)] H⟩⟩⟩)
@[simp] def r10 (fr : AFr) (H : Hp) : ARes :=
 areg (q' (alenR .sl (fr 1)) H ⟨fun v48 H =>
 q' (bn' .lss (fr 12) v48) H ⟨fun v49 H =>
 e' [(1, fr 1), (3, fr 3), (7, fr 7), (8, fr 8), (10, fr 10), (11, fr 11), (12, fr 12), (49, v49)] H⟩⟩)
@[simp] def r11 (fr : AFr) (H : Hp) : ARes :=
 areg (q' (z_aa (.sl 1) (fr 1) (fr 12)) H ⟨fun v54 H =>
 q' (ld' v54 H) H ⟨fun v55 H =>
 q' (z_aa (.sl 1) (fr 10) (fr 12)) H ⟨fun v56 H =>
 w' (z_ac (some 1) v56 v55 H) ⟨fun _ H =>
 e' [(1, fr 1), (3, fr 3), (7, fr 7), (8, fr 8), (10, fr 10), (11, fr 11), (12, fr 12)] H⟩⟩⟩⟩)
@[simp] def r9 (fr : AFr) (H : Hp) : ARes :=
 areg (q' (bn' .add (fr 12) (.int .i64 1)) H ⟨fun v45 H =>
 e' [(1, fr 1), (3, fr 3), (7, fr 7), (8, fr 8), (10, fr 10), (11, fr 11), (12, v45)] H⟩)
@[simp] def r12 (s6 : SpecP) (fr : AFr) (H : Hp) : ARes :=
 areg (q' (alenR .sl (fr 7)) H ⟨fun v61 H =>
 q' (bn' .add v61 (.int .i64 5)) H ⟨fun v62 H =>
 o' (callP false s6 [[some 1], [some 1], [some 1], [none]] [(fr 7), (fr 10), (fr 11), v62] H) ⟨fun v63 H =>
 o' (z_bu T.ty_api_Outcome (some (.agg [(.int .i64 0), (.int .i64 0), (.int .i64 0), .nils, .nils])) H) ⟨fun v13 H =>
 w' (z_ac (some 5) v13 v63 H) ⟨fun _ H =>
 e' [(1, fr 1), (3, fr 3), (7, fr 7), (8, fr 8), (11, fr 11), (13, v13)] H⟩⟩⟩⟩⟩)
@[simp] def r13 (s7 : SpecP) (fr : AFr) (H : Hp) : ARes :=
 areg (q' (Ld' 3 (fr 3) H) H ⟨fun v65 H =>
 o' (callP false s7 [[none, some 4, some 1], [some 1], [some 1]] [v65, (fr 1), (fr 11)] H) ⟨fun v68 H =>
 q' (aextract v68 0) H ⟨fun v69 H =>
 q' (aextract v68 1) H ⟨fun v70 H =>
 e' [(3, fr 3), (7, fr 7), (8, fr 8), (11, fr 11), (13, fr 13), (14, v69), (15, v70)] H⟩⟩⟩⟩)
@[simp] def r14 (fr : AFr) (H : Hp) : ARes :=
 areg (q' (fa' 2 (fr 13)) H ⟨fun v71 H =>
 q' (ld' v71 H) H ⟨fun v72 H =>
 q' (bn' .neq v72 (.int .i64 0)) H ⟨fun v73 H =>
 G' v73 false ⟨fa' 0 (fr 13)⟩ H ⟨fun v75 H =>
 G' v73 false ⟨ld' v75 H⟩ H ⟨fun v76 H =>
 G' v73 false ⟨some (fr 7)⟩ H ⟨fun v77 H =>
 G' v73 false ⟨alenR .sl v77⟩ H ⟨fun v78 H =>
 G' v73 false ⟨bn' .neq v76 v78⟩ H ⟨fun v79 H =>
 q' (apick v73 (.bool true) v79) H ⟨fun v80 H =>
 G' v80 false ⟨fa' 1 (fr 13)⟩ H ⟨fun v82 H =>
 G' v80 false ⟨ld' v82 H⟩ H ⟨fun v83 H =>
 G' v80 false ⟨some (fr 11)⟩ H ⟨fun v84 H =>
 G' v80 false ⟨alenR .sl v84⟩ H ⟨fun v85 H =>
 G' v80 false ⟨bn' .neq v83 v85⟩ H ⟨fun v86 H =>
 q' (apick v80 (.bool true) v86) H ⟨fun v87 H =>
 G' v87 false ⟨some (fr 15)⟩ H ⟨fun v89 H =>
 G' v87 false ⟨aun .not v89⟩ H ⟨fun v90 H =>
 q' (apick v87 (.bool true) v90) H ⟨fun v91 H =>
 G' v91 false ⟨fa' 3 (fr 13)⟩ H ⟨fun v93 H =>
 G' v91 false ⟨ld' v93 H⟩ H ⟨fun v94 H =>
 G' v91 false ⟨alenR .sl v94⟩ H ⟨fun v95 H =>
 G' v91 false ⟨some (fr 8)⟩ H ⟨fun v96 H =>
 G' v91 false ⟨bn' .neq v95 v96⟩ H ⟨fun v97 H =>
 q' (apick v91 (.bool true) v97) H ⟨fun v98 H =>
 e' [(3, fr 3), (13, fr 13), (14, fr 14), (98, v98)] H⟩⟩⟩⟩⟩⟩⟩⟩⟩⟩⟩⟩⟩⟩⟩⟩⟩⟩⟩⟩⟩⟩⟩⟩)
@[simp] def r15 (fr : AFr) (H : Hp) : ARes :=
 areg (e' [(6, (.bool false))] H)
@[simp] def r16 (fr : AFr) (H : Hp) : ARes :=
 areg (e' [(3, fr 3), (13, fr 13), (14, fr 14), (16, (.int .i64 0))] H)
@[simp] def r17 (fr : AFr) (H : Hp) : ARes :=
 areg (q' (fa' 2 (fr 3)) H ⟨fun v100 H =>
 q' (ld' v100 H) H ⟨fun v101 H =>
 q' (alenR .sl v101) H ⟨fun v102 H =>
 q' (bn' .lss (fr 16) v102) H ⟨fun v103 H =>
 e' [(3, fr 3), (13, fr 13), (14, fr 14), (16, fr 16), (103, v103)] H⟩⟩⟩⟩)
@[simp] def r19 (fr : AFr) (H : Hp) : ARes :=
 areg (q' (fa' 3 (fr 13)) H ⟨fun v106 H1 =>
 q' (ld' v106 H1) H1 ⟨fun v107 H2 =>
 q' (fa' 0 (fr 3)) H2 ⟨fun v108 H3 =>
 q' (ld' v108 H3) H3 ⟨fun v109 H4 =>
 q' (some (fr 16)) H4 ⟨fun v110 H5 =>
 q' (bn' .add v109 v110) H5 ⟨fun v111 H6 =>
 q' (z_aa (.sl 1) v107 v111) H6 ⟨fun v112 H7 =>
 q' (ld' v112 H7) H7 ⟨fun v113 H8 =>
 q' (some (fr 14)) H8 ⟨fun v114 H9 =>
 q' (fa' 2 (fr 3)) H9 ⟨fun v115 H10 =>
 q' (ld' v115 H10) H10 ⟨fun v116 H11 =>
 q' (some (fr 16)) H11 ⟨fun v117 H12 =>
 q' (z_aa (.sl 1) v116 v117) H12 ⟨fun v118 H13 =>
 q' (ld' v118 H13) H13 ⟨fun v119 H14 =>
 q' (z_aa (.sl 1) v114 v119) H14 ⟨fun v120 H15 =>
 q' (ld' v120 H15) H15 ⟨fun v121 H16 =>
 q' (bn' .neq v113 v121) H16 ⟨fun v122 H17 =>
 e' [(3, fr 3), (13, fr 13), (14, fr 14), (16, fr 16), (122, v122)] H17⟩⟩⟩⟩⟩⟩⟩⟩⟩⟩⟩⟩⟩⟩⟩⟩⟩)
@[simp] def r20 (fr : AFr) (H : Hp) : ARes :=
 areg (e' [(6, (.bool false))] H)
@[simp] def r18 (fr : AFr) (H : Hp) : ARes :=
 areg (q' (bn' .add (fr 16) (.int .i64 1)) H ⟨fun v105 H =>
 e' [(3, fr 3), (13, fr 13), (14, fr 14), (16, v105)] H⟩)
@[simp] def r21 (s2 : SpecP) (fr : AFr) (H : Hp) : ARes :=
 areg (o' (callP false s2 [] [] H) ⟨fun v123 H =>
 e' [(6, v123)] H⟩)
def l0 (s0 s1 s2 s3 s4 s5 s6 s7 : SpecP) (fr : AFr) (H : Hp) : ARes :=
 s' (s' (r8 fr H) ⟨fun fr H =>
 c' (fr 43)
 ⟨some (.normal, fr, H)⟩
 ⟨some (.exit 0, fr, H)⟩⟩) ⟨fun fr H =>
 s' (aexit 1 (s' (r10 fr H) ⟨fun fr H =>
 c' (fr 49)
 ⟨r11 fr H⟩
 ⟨some (.normal, fr, H)⟩⟩)) ⟨fun fr H =>
 r9 fr H⟩⟩
def l1 (s0 s1 s2 s3 s4 s5 s6 s7 : SpecP) (fr : AFr) (H : Hp) : ARes :=
 s' (s' (r17 fr H) ⟨fun fr H =>
 c' (fr 103)
 ⟨some (.normal, fr, H)⟩
 ⟨some (.exit 2, fr, H)⟩⟩) ⟨fun fr H =>
 s' (aexit 3 (s' (r19 fr H) ⟨fun fr H =>
 c' (fr 122)
 ⟨s' (r20 fr H) ⟨fun fr H =>
 some (.ret, fr, H)⟩⟩
 ⟨some (.normal, fr, H)⟩⟩)) ⟨fun fr H =>
 r18 fr H⟩⟩
@[simp] def body (s0 s1 s2 s3 s4 s5 s6 s7 : SpecP) (fr : AFr) (H : Hp) : ARes :=
 s' (r0 fr H) ⟨fun fr H =>
 s' (s' (r1 s0 s1 fr H) ⟨fun fr H =>
 c' (fr 24)
 ⟨s' (r2 s2 fr H) ⟨fun fr H =>
 some (.ret, fr, H)⟩⟩
 ⟨some (.normal, fr, H)⟩⟩) ⟨fun fr H =>
 s' (r3 s3 fr H) ⟨fun fr H =>
 s' (s' (r4 fr H) ⟨fun fr H =>
 c' (fr 33)
 ⟨s' (r5 fr H) ⟨fun fr H =>
 some (.ret, fr, H)⟩⟩
 ⟨some (.normal, fr, H)⟩⟩) ⟨fun fr H =>
 s' (r6 s4 s5 fr H) ⟨fun fr H =>
 s' (s' (r7 fr H) ⟨fun fr H =>
 aexit 0 (aloop (l0 s0 s1 s2 s3 s4 s5 s6 s7) fr H)⟩) ⟨fun fr H =>
 s' (r12 s6 fr H) ⟨fun fr H =>
 s' (r13 s7 fr H) ⟨fun fr H =>
 s' (s' (r14 fr H) ⟨fun fr H =>
 c' (fr 98)
 ⟨s' (r15 fr H) ⟨fun fr H =>
 some (.ret, fr, H)⟩⟩
 ⟨some (.normal, fr, H)⟩⟩) ⟨fun fr H =>
 s' (s' (r16 fr H) ⟨fun fr H =>
 aexit 2 (aloop (l1 s0 s1 s2 s3 s4 s5 s6 s7) fr H)⟩) ⟨fun fr H =>
 s' (r21 s2 fr H) ⟨fun fr H =>
 some (.ret, fr, H)⟩⟩⟩⟩⟩⟩⟩⟩⟩⟩⟩
@[simp] def res (fr : AFr) (H : Hp) : Option (List AV) := res2 (some (fr 6)) (some [])
end law25_EmitRuns
def law25_EmitRuns (a0 a1 a2 : AV) : Option AV := z_ar (some [[none]]) (afinR law25_EmitRuns.res (law25_EmitRuns.body z_cz.spec z_bx.spec z_cr.spec z_c3.spec z_bf.spec z_co.spec z_be.spec z_bd.spec (args0 [a0, a1, a2]) Hp.empty))
def law25_EmitRuns.spec : List AV → Option AV
 | [a0, a1, a2] => law25_EmitRuns a0 a1 a2
 | _ => none
end
end Go.Abs
end
section
namespace Go.Abs
theorem Mixed : Go.Proofs.Try.prog.follows .mixedOrders = true := by kernel_rfl
noncomputable abbrev tp := Go.Proofs.Try.prog
noncomputable def co (fn : Func) : Code := match fn.body with | some c => c | none => .skip
section
variable {C : Tab} {K : Nat → List Nat} {f : FuncId} {fn : Func} (hC : Tab.Sound tp C) (hf : tp.funcs[f]? = some fn) (hb : fn.body = some (co fn)) (hok : z_ek fn.ntmps (co fn) = true) (hcl : Callable tp f)
 {B : AFr → Hp → ARes} (hB : ∀ fr H, acode tp C (draws tp C) K (co fn) fr H = B fr H) (n : Nat) (hn : n ≤ fn.ntmps) {g : AFr → Hp → Option (List AV)} (hg : ∀ fr H, aresults tp fr H fn.results.toList = g fr H)
include hC hf hb hok hcl hB hn hg
omit hf hb hok hcl hC in
theorem runB {args : List AV} (hl : args.length = n) (H : Hp) : arun tp C (draws tp C) K fn (co fn) args H = afinR g (B (args0 args) H) := by
 unfold arun
 rw [if_pos (by omega)]
 unfold afin
 rw [hB, show (fun fr H => aresults tp fr H fn.results.toList) = g from funext fun fr => funext fun H => hg fr H]
theorem sayP {ts : Option (List (List (Option Nat)))} (hts : tysOf tp fn.resultTypes.toList = ts) {spec : List AV → Option AV} (hs : ∀ args r, spec args = some r → args.length = n ∧ z_ar ts (afinR g (B (args0 args) Hp.empty)) = some r) : Sound tp f (.pure false spec) :=
 (z_kw hC Mixed (draws _ _) K hf hb hok hcl).less fun args r h => by
  obtain ⟨h1, h2⟩ := hs args r h
  unfold z_m9 z_o8
  rw [runB hB n hn hg h1, hts]; exact h2
theorem sayR {fz : List Bool} {spec : List AV → Hp → Option (AV × Hp)} (hs : ∀ args H r, spec args H = some r → args.length = n ∧ raw (afinR g (B (args0 args) H)) = some r) : Sound tp f (.ref fz spec) :=
 (z_r4 hC Mixed (draws _ _) K hf hb hok hcl fz).lessR fun args H r h => by
  obtain ⟨h1, h2⟩ := hs args H r h
  unfold refOf
  rw [runB hB n hn hg h1]; exact h2
theorem sayT {fz : List Bool} {spec : List AV → Hp → Option (AV × Hp)} (hs : ∀ args H r, spec args H = some r → args.length = n ∧ forget H (afinR g (B (args0 args) H)) = some r) : Sound tp f (.ref fz spec) :=
 (z_qj hC Mixed (draws _ _) K hf hb hok hcl fz).lessR fun args H r h => by
  obtain ⟨h1, h2⟩ := hs args H r h
  unfold refT
  rw [runB hB n hn hg h1]; exact h2
end
end Go.Abs
end
section
namespace Go.Abs
open Go.Proofs.Try
namespace z_bg
def K : Nat → List Nat
 | 0 => [0]
 | 1 => [3]
 | 2 => [3, 4]
 | 3 => [3, 4]
 | 4 => [2]
 | 5 => [3, 7]
 | 6 => [3, 7]
 | 7 => [3, 7]
 | 8 => [3, 7]
 | 9 => [7]
 | 10 => [2]
 | 11 => [2]
 | _ => []
theorem z_ae (fr : AFr) (H : Hp) : acode tp C (draws tp C) K (co f155) fr H = body fr H := by kernel_rfl
theorem sound : Sound tp 155 (.pure false spec) := sayP Tab.Sound.none func155 (by kernel_rfl) (by kernel_rfl) (fun a w => call155 a w) z_ae 1 (by decide +kernel) (g := res) (fun fr H => by kernel_rfl) (ts := some [[none]]) (by kernel_rfl) fun args r h => by
 unfold spec at h; split at h <;> first | exact ⟨rfl, h⟩ | cases h
end z_bg
namespace z_bi
def K : Nat → List Nat
 | 0 => [1]
 | 1 => [1, 4]
 | 2 => [1, 4, 5]
 | 3 => [2]
 | 4 => [1, 4, 7]
 | 5 => [1, 4, 7]
 | 6 => [1, 7]
 | 7 => [2]
 | 8 => [2]
 | _ => []
theorem z_ae (fr : AFr) (H : Hp) : acode tp C (draws tp C) K (co f156) fr H = body fr H := by kernel_rfl
theorem sound : Sound tp 156 (.pure false spec) := sayP Tab.Sound.none func156 (by kernel_rfl) (by kernel_rfl) (fun a w => call156 a w) z_ae 1 (by decide +kernel) (g := res) (fun fr H => by kernel_rfl) (ts := some [[none]]) (by kernel_rfl) fun args r h => by
 unfold spec at h; split at h <;> first | exact ⟨rfl, h⟩ | cases h
end z_bi
namespace z_ck
def K : Nat → List Nat
 | 0 => [0, 1, 2]
 | 1 => [0, 1, 8]
 | 2 => [6]
 | 3 => [6]
 | _ => []
theorem z_ae (fr : AFr) (H : Hp) : acode tp C (draws tp C) K (co f157) fr H = body fr H := by kernel_rfl
theorem sound : Sound tp 157 (.pure false spec) := sayP Tab.Sound.none func157 (by kernel_rfl) (by kernel_rfl) (fun a w => call157 a w) z_ae 3 (by decide +kernel) (g := res) (fun fr H => by kernel_rfl) (ts := some [[none]]) (by kernel_rfl) fun args r h => by
 unfold spec at h; split at h <;> first | exact ⟨rfl, h⟩ | cases h
end z_ck
namespace z_b1
def K : Nat → List Nat
 | 0 => [1]
 | 1 => [1, 21]
 | 2 => [2]
 | 3 => [1, 23, 24, 25]
 | 4 => [1, 23, 24, 25, 26]
 | 5 => [1, 3, 4, 23, 24, 25]
 | 6 => [1, 3, 4, 5, 23, 24, 25]
 | 7 => [1, 23, 24, 25, 69]
 | 8 => [2]
 | 9 => [1, 23, 24, 25]
 | 10 => [1, 72, 73, 74]
 | 11 => [1, 72, 73, 74, 75]
 | 12 => [1, 7, 72, 73, 74]
 | 13 => [1, 72, 73, 74, 86]
 | 14 => [2]
 | 15 => [1, 72, 73, 74]
 | 16 => [2]
 | _ => []
theorem z_ae (s0 s1 s2 : SpecP) (fr : AFr) (H : Hp) : acode tp (C s0 s1 s2) (draws tp (C s0 s1 s2)) K (co f113) fr H = body s0 s1 s2 fr H := by kernel_rfl
theorem sound : Sound tp 113 (.pure false spec) := sayP (((Tab.Sound.none.add z_bg.sound).add z_bi.sound).add z_ck.sound) func113 (by kernel_rfl) (by kernel_rfl) (fun a w => call113 a w) (z_ae z_bg.spec z_bi.spec z_ck.spec) 1 (by decide +kernel) (g := res) (fun fr H => by kernel_rfl) (ts := some [[none]]) (by kernel_rfl) fun args r h => by
 unfold spec at h; split at h <;> first | exact ⟨rfl, h⟩ | cases h
end z_b1
namespace z_d7
def K : Nat → List Nat
 | 0 => [1]
 | 1 => [2]
 | _ => []
theorem z_ae (s0 : SpecP) (fr : AFr) (H : Hp) : acode tp (C s0) (draws tp (C s0)) K (co f68) fr H = body s0 fr H := by kernel_rfl
theorem sound : Sound tp 68 (.pure false spec) := sayP (Tab.Sound.none.add z_b1.sound) func68 (by kernel_rfl) (by kernel_rfl) (fun a w => call68 a w) (z_ae z_b1.spec) 1 (by decide +kernel) (g := res) (fun fr H => by kernel_rfl) (ts := some [[none]]) (by kernel_rfl) fun args r h => by
 unfold spec at h; split at h <;> first | exact ⟨rfl, h⟩ | cases h
end z_d7
end Go.Abs
end
section
section
namespace Go.Abs
open Go.Proofs.Try
namespace z_ab
def K : Nat → List Nat
 | 0 => [0, 2]
 | 1 => [0, 2, 3, 4, 5]
 | 2 => [0, 2, 3, 4, 5, 6, 7]
 | 3 => [0, 2, 3, 4, 5, 6, 7, 13]
 | 4 => [0, 2, 3, 4, 5, 6, 7, 13, 14]
 | 5 => [0, 2, 3, 4, 5, 6, 7, 13, 14]
 | 6 => [0, 2, 3, 4, 5, 6, 7, 13, 14]
 | 7 => [0, 2, 3, 4, 5, 6, 7, 13, 14]
 | 8 => [2]
 | 9 => [0, 2, 3, 4, 5, 6, 7, 13, 28]
 | 10 => [2]
 | 11 => [0, 2, 3, 4, 5, 6, 7, 13, 35]
 | 12 => [0, 2, 3, 4, 5, 6, 7, 13, 35]
 | 13 => [2]
 | 14 => [0, 2, 3, 4, 5, 6, 7, 13, 47]
 | 15 => [0, 2, 3, 4, 5, 6, 7, 13, 47]
 | 16 => [2]
 | 17 => [0, 2, 3, 4, 5, 6, 7, 13, 60]
 | 18 => [0, 2, 3, 4, 5, 6, 7, 13, 60]
 | 19 => [2]
 | 20 => [2, 3, 4, 5, 6, 7, 13, 73]
 | 21 => [2]
 | 22 => [2, 3, 4, 5, 6, 13, 80]
 | 23 => [2]
 | 24 => [2, 3, 4, 5, 6, 13, 87]
 | 25 => [2]
 | 26 => [2, 3, 4, 5, 6, 13, 94]
 | 27 => [2]
 | 28 => [2, 3, 4, 5, 6, 13, 101]
 | 29 => [2]
 | 30 => [2, 6, 13, 108]
 | 31 => [2]
 | 32 => [2, 6, 13, 114]
 | 33 => [2]
 | 34 => [2, 6, 13, 119]
 | 35 => [2]
 | 36 => [2, 6, 125]
 | 37 => [2]
 | 38 => [2]
 | _ => []
theorem z_ae (fr : AFr) (H : Hp) : acode tp C (draws tp C) K (co f65) fr H = body fr H := by kernel_rfl
theorem sound : Sound tp 65 (.pure false spec) := sayP Tab.Sound.none func65 (by kernel_rfl) (by kernel_rfl) (fun a w => call65 a w) z_ae 1 (by decide +kernel) (g := res) (fun fr H => by kernel_rfl) (ts := some [[none, none, none, none, none, none, none, none, none, none, none, none]]) (by kernel_rfl) fun args r h => by
 unfold spec at h; split at h <;> first | exact ⟨rfl, h⟩ | cases h
end z_ab
namespace z_a7
def K : Nat → List Nat
 | 0 => [0, 1]
 | 1 => [0, 5]
 | 2 => [0, 5, 6]
 | 3 => [0, 5, 6]
 | 4 => [4]
 | 5 => [0, 5, 12]
 | 6 => [4]
 | 7 => [0, 17]
 | 8 => [4]
 | 9 => [4]
 | _ => []
theorem z_ae (fr : AFr) (H : Hp) : acode tp C (draws tp C) K (co f66) fr H = body fr H := by kernel_rfl
theorem sound : Sound tp 66 (.ref [false, false] spec) := sayR Tab.Sound.none func66 (by kernel_rfl) (by kernel_rfl) (fun a w => call66 a w) z_ae 2 (by decide +kernel) (g := res) (fun fr H => by kernel_rfl) fun args H r h => by
 unfold spec at h; split at h <;> first | exact ⟨rfl, h⟩ | cases h
end z_a7
namespace z_af
def K : Nat → List Nat
 | 0 => [1]
 | 1 => [1, 15]
 | 2 => [2]
 | 3 => [1, 3]
 | 4 => [1, 3, 30]
 | 5 => [2]
 | 6 => [1, 3, 4]
 | 7 => [1, 4, 33, 34]
 | 8 => [1, 4, 33, 34, 35]
 | 9 => [1, 4, 6, 33, 34]
 | 10 => [1, 4, 6, 7, 33, 34]
 | 11 => [1, 4, 6, 7, 33, 34, 42]
 | 12 => [1, 4, 6, 7, 33, 34, 46]
 | 13 => [1, 4, 6, 33, 34, 46]
 | 14 => [2]
 | 15 => [1, 4, 33, 34]
 | 16 => [1, 4, 33, 34]
 | 17 => [2]
 | _ => []
theorem z_ae (s0 : SpecP) (s1 : SpecM) (fr : AFr) (H : Hp) : acode tp (C s0 s1) (draws tp (C s0 s1)) K (co f59) fr H = body s0 s1 fr H := by kernel_rfl
theorem sound : Sound tp 59 (.pure false spec) := sayP ((Tab.Sound.none.add z_ab.sound).add z_a7.sound) func59 (by kernel_rfl) (by kernel_rfl) (fun a w => call59 a w) (z_ae z_ab.spec z_a7.spec) 1 (by decide +kernel) (g := res) (fun fr H => by kernel_rfl) (ts := some [[none]]) (by kernel_rfl) fun args r h => by
 unfold spec at h; split at h <;> first | exact ⟨rfl, h⟩ | cases h
end z_af
namespace z_ag
def K : Nat → List Nat
 | 0 => [1]
 | 1 => [1, 3]
 | 2 => [1, 3, 4]
 | 3 => [1, 4, 13, 14]
 | 4 => [1, 4, 13, 14, 15]
 | 5 => [1, 4, 6, 13, 14]
 | 6 => [1, 4, 6, 13, 14, 19]
 | 7 => [1, 4, 13, 14]
 | 8 => [1, 4, 13, 14]
 | 9 => [2]
 | _ => []
theorem z_ae (s0 : SpecP) (s1 : SpecM) (fr : AFr) (H : Hp) : acode tp (C s0 s1) (draws tp (C s0 s1)) K (co f67) fr H = body s0 s1 fr H := by kernel_rfl
theorem sound : Sound tp 67 (.pure false spec) := sayP ((Tab.Sound.none.add z_ab.sound).add z_a7.sound) func67 (by kernel_rfl) (by kernel_rfl) (fun a w => call67 a w) (z_ae z_ab.spec z_a7.spec) 1 (by decide +kernel) (g := res) (fun fr H => by kernel_rfl) (ts := some [[none]]) (by kernel_rfl) fun args r h => by
 unfold spec at h; split at h <;> first | exact ⟨rfl, h⟩ | cases h
end z_ag
namespace z_dd
def K : Nat → List Nat
 | 0 => [1]
 | 1 => [1, 6]
 | 2 => [2, 3]
 | 3 => [2, 3]
 | _ => []
theorem z_ae (s0 s1 : SpecP) (fr : AFr) (H : Hp) : acode tp (C s0 s1) (draws tp (C s0 s1)) K (co f63) fr H = body s0 s1 fr H := by kernel_rfl
theorem sound : Sound tp 63 (.pure false spec) := sayP ((Tab.Sound.none.add z_af.sound).add z_ag.sound) func63 (by kernel_rfl) (by kernel_rfl) (fun a w => call63 a w) (z_ae z_af.spec z_ag.spec) 1 (by decide +kernel) (g := res) (fun fr H => by kernel_rfl) (ts := some [[none], [none]]) (by kernel_rfl) fun args r h => by
 unfold spec at h; split at h <;> first | exact ⟨rfl, h⟩ | cases h
end z_dd
end Go.Abs
end
section
namespace Go.Abs
open Go.Proofs.Try
namespace z_ay
def K : Nat → List Nat
 | 0 => [0]
 | 1 => [2]
 | _ => []
theorem z_ae (fr : AFr) (H : Hp) : acode tp C (draws tp C) K (co f107) fr H = body fr H := by kernel_rfl
theorem sound : Sound tp 107 (.pure false spec) := sayP Tab.Sound.none func107 (by kernel_rfl) (by kernel_rfl) (fun a w => call107 a w) z_ae 1 (by decide +kernel) (g := res) (fun fr H => by kernel_rfl) (ts := some [[none]]) (by kernel_rfl) fun args r h => by
 unfold spec at h; split at h <;> first | exact ⟨rfl, h⟩ | cases h
end z_ay
namespace z_cx
def K : Nat → List Nat
 | 0 => [0, 1]
 | 1 => [0, 1, 5]
 | 2 => [0, 1, 5, 9]
 | 4 => [0, 1, 5, 16]
 | 5 => [4]
 | 3 => [0, 1, 5]
 | 6 => [4]
 | _ => []
theorem z_ae (fr : AFr) (H : Hp) : acode tp C (draws tp C) K (co f108) fr H = body fr H := by kernel_rfl
theorem sound : Sound tp 108 (.pure false spec) := sayP Tab.Sound.none func108 (by kernel_rfl) (by kernel_rfl) (fun a w => call108 a w) z_ae 2 (by decide +kernel) (g := res) (fun fr H => by kernel_rfl) (ts := some [[none]]) (by kernel_rfl) fun args r h => by
 unfold spec at h; split at h <;> first | exact ⟨rfl, h⟩ | cases h
end z_cx
namespace z_bj
def K : Nat → List Nat
 | 0 => [0]
 | 1 => [2]
 | _ => []
theorem z_ae (fr : AFr) (H : Hp) : acode tp C (draws tp C) K (co f109) fr H = body fr H := by kernel_rfl
theorem sound : Sound tp 109 (.pure false spec) := sayP Tab.Sound.none func109 (by kernel_rfl) (by kernel_rfl) (fun a w => call109 a w) z_ae 1 (by decide +kernel) (g := res) (fun fr H => by kernel_rfl) (ts := some [[none]]) (by kernel_rfl) fun args r h => by
 unfold spec at h; split at h <;> first | exact ⟨rfl, h⟩ | cases h
end z_bj
namespace z_a5
def K : Nat → List Nat
 | 0 => [0]
 | 1 => [2]
 | _ => []
theorem z_ae (fr : AFr) (H : Hp) : acode tp C (draws tp C) K (co f110) fr H = body fr H := by kernel_rfl
theorem sound : Sound tp 110 (.pure false spec) := sayP Tab.Sound.none func110 (by kernel_rfl) (by kernel_rfl) (fun a w => call110 a w) z_ae 1 (by decide +kernel) (g := res) (fun fr H => by kernel_rfl) (ts := some [[none]]) (by kernel_rfl) fun args r h => by
 unfold spec at h; split at h <;> first | exact ⟨rfl, h⟩ | cases h
end z_a5
namespace z_ah
def K : Nat → List Nat
 | 0 => [1]
 | 1 => [1, 11]
 | 2 => [2]
 | 3 => [1, 3]
 | 4 => [1, 3, 16]
 | 5 => [1, 3, 24]
 | 6 => [2]
 | 7 => [1, 3, 42]
 | 8 => [2]
 | 9 => [2]
 | _ => []
theorem z_ae (s0 s1 s2 s3 : SpecP) (fr : AFr) (H : Hp) : acode tp (C s0 s1 s2 s3) (draws tp (C s0 s1 s2 s3)) K (co f60) fr H = body s0 s1 s2 s3 fr H := by kernel_rfl
theorem sound : Sound tp 60 (.pure false spec) := sayP ((((Tab.Sound.none.add z_ay.sound).add z_cx.sound).add z_bj.sound).add z_a5.sound) func60 (by kernel_rfl) (by kernel_rfl) (fun a w => call60 a w) (z_ae z_ay.spec z_cx.spec z_bj.spec z_a5.spec) 1 (by decide +kernel) (g := res) (fun fr H => by kernel_rfl) (ts := some [[none]]) (by kernel_rfl) fun args r h => by
 unfold spec at h; split at h <;> first | exact ⟨rfl, h⟩ | cases h
end z_ah
namespace z_bl
def K : Nat → List Nat
 | 0 => [1]
 | 1 => [1, 4]
 | 2 => [1, 44]
 | 3 => [2, 3]
 | 4 => [2, 3]
 | _ => []
theorem z_ae (s0 : SpecP) (fr : AFr) (H : Hp) : acode tp (C s0) (draws tp (C s0)) K (co f16) fr H = body s0 fr H := by kernel_rfl
theorem sound : Sound tp 16 (.pure false spec) := sayP (Tab.Sound.none.add z_ah.sound) func16 (by kernel_rfl) (by kernel_rfl) (fun a w => call16 a w) (z_ae z_ah.spec) 1 (by decide +kernel) (g := res) (fun fr H => by kernel_rfl) (ts := some [[none], [none]]) (by kernel_rfl) fun args r h => by
 unfold spec at h; split at h <;> first | exact ⟨rfl, h⟩ | cases h
end z_bl
namespace z_ba
def K : Nat → List Nat
 | 0 => [0, 2]
 | 1 => [0, 2, 4]
 | 2 => [0, 2, 4, 13]
 | 4 => [0, 2, 4, 5, 6, 7, 8]
 | 5 => [0, 2, 4, 5, 6, 7, 8, 9]
 | 6 => [0, 2, 4, 5, 6, 7, 8, 9, 10]
 | 7 => [0, 2, 4, 5, 6, 7, 8, 9, 10, 23]
 | 9 => [0, 2, 4, 5, 6, 7, 8, 9, 10, 11]
 | 10 => [0, 2, 4, 5, 6, 7, 8, 9, 10, 11, 27]
 | 11 => [0, 2, 4, 5, 6, 7, 8, 9, 10, 11]
 | 12 => [0, 2, 4, 5, 6, 7, 8, 9, 10, 11]
 | 13 => [0, 2, 4, 5, 6, 7, 8, 9, 10, 11, 34]
 | 14 => [0, 2, 4, 5, 6, 7, 8, 9, 10, 11, 34, 35]
 | 15 => [0, 2, 4, 5, 6, 7, 8, 9, 10, 11, 34, 35]
 | 16 => [0, 2, 4, 5, 6, 7, 8, 9, 10]
 | 17 => [0, 2, 4, 5, 6, 7, 8, 9, 10, 11, 34, 48]
 | 18 => [0, 2, 4, 5, 6, 7, 8, 9, 10, 11, 34, 48]
 | 19 => [0, 2, 4, 5, 6, 7, 8, 9, 10]
 | 20 => [0, 2, 4, 5, 6, 7, 8, 9, 10, 11, 34, 57]
 | 21 => [0, 2, 4, 5, 6, 7, 8, 9, 10]
 | 22 => [0, 2, 4, 5, 6, 7, 8, 9, 10, 11, 34, 65]
 | 23 => [0, 2, 4, 5, 6, 7, 8, 9, 10]
 | 24 => [0, 2, 4, 5, 6, 7, 8, 9, 10, 11, 73]
 | 25 => [0, 2, 4, 5, 6, 7, 8, 9, 10]
 | 8 => [0, 2, 4, 5, 6, 7, 8, 9, 10]
 | 26 => [0, 2, 4, 6, 7, 8, 92]
 | 27 => [0, 2, 4, 6, 7]
 | 28 => [0, 2, 4, 6, 7, 105]
 | 29 => [0, 2, 4, 6, 7]
 | 30 => [0, 2, 4, 6, 111]
 | 31 => [2, 3]
 | 3 => [0, 2, 4]
 | 32 => [2, 3]
 | _ => []
theorem z_ae (s0 s1 s2 s3 : SpecP) (fr : AFr) (H : Hp) : acode tp (C s0 s1 s2 s3) (draws tp (C s0 s1 s2 s3)) K (co f83) fr H = body s0 s1 s2 s3 fr H := by kernel_rfl
theorem sound : Sound tp 83 (.pure false spec) := sayP ((((Tab.Sound.none.add z_ay.sound).add z_bj.sound).add z_a5.sound).add z_ah.sound) func83 (by kernel_rfl) (by kernel_rfl) (fun a w => call83 a w) (z_ae z_ay.spec z_bj.spec z_a5.spec z_ah.spec) 1 (by decide +kernel) (g := res) (fun fr H => by kernel_rfl) (ts := some [[none, none, none, none, none], [none]]) (by kernel_rfl) fun args r h => by
 unfold spec at h; split at h <;> first | exact ⟨rfl, h⟩ | cases h
end z_ba
end Go.Abs
end
section
end
section
namespace Go.Abs
open Go.Proofs.Try
namespace z_b0
def K : Nat → List Nat
 | 0 => [0, 1, 2]
 | 1 => [0, 1, 7]
 | 2 => [0, 1, 7, 8]
 | 3 => [0, 1, 7, 8, 21]
 | 5 => [0, 1, 7, 8]
 | 4 => [0, 1, 7, 8]
 | 6 => [1, 7, 38]
 | 7 => [1, 7]
 | 8 => [1, 7, 40]
 | 9 => [7]
 | 10 => [6]
 | _ => []
theorem z_ae (fr : AFr) (H : Hp) : acode tp C (draws tp C) K (co f85) fr H = body fr H := by kernel_rfl
theorem sound : Sound tp 85 (.ref [true, false, true] spec) := sayR Tab.Sound.none func85 (by kernel_rfl) (by kernel_rfl) (fun a w => call85 a w) z_ae 3 (by decide +kernel) (g := res) (fun fr H => by kernel_rfl) fun args H r h => by
 unfold spec at h; split at h <;> first | exact ⟨rfl, h⟩ | cases h
end z_b0
namespace z_a1
def K : Nat → List Nat
 | 0 => [0, 1]
 | 1 => [0, 1, 19]
 | 2 => [4, 5]
 | 3 => [4, 5]
 | _ => []
theorem z_ae (fr : AFr) (H : Hp) : acode tp C (draws tp C) K (co f124) fr H = body fr H := by kernel_rfl
theorem sound : Sound tp 124 (.ref [false, false] spec) := sayT Tab.Sound.none func124 (by kernel_rfl) (by kernel_rfl) (fun a w => call124 a w) z_ae 2 (by decide +kernel) (g := res) (fun fr H => by kernel_rfl) fun args H r h => by
 unfold spec at h; split at h <;> first | exact ⟨rfl, h⟩ | cases h
end z_a1
namespace z_av
def K : Nat → List Nat
 | 0 => [0, 1]
 | 1 => [0, 1, 10]
 | 2 => [4, 5]
 | 3 => [0, 1]
 | 4 => [0, 1, 12]
 | 5 => [0, 22]
 | 6 => [4, 5]
 | 7 => [0, 6]
 | 8 => [0, 1, 54]
 | 9 => [0, 6]
 | 10 => [0, 7]
 | 11 => [0, 7, 74]
 | 12 => [0, 6]
 | 13 => [4, 5]
 | 14 => [6]
 | 15 => [4, 5]
 | _ => []
theorem z_ae (fr : AFr) (H : Hp) : acode tp C (draws tp C) K (co f166) fr H = body fr H := by kernel_rfl
theorem sound : Sound tp 166 (.ref [false, false] spec) := sayT Tab.Sound.none func166 (by kernel_rfl) (by kernel_rfl) (fun a w => call166 a w) z_ae 2 (by decide +kernel) (g := res) (fun fr H => by kernel_rfl) fun args H r h => by
 unfold spec at h; split at h <;> first | exact ⟨rfl, h⟩ | cases h
end z_av
namespace z_a9
def K : Nat → List Nat
 | 0 => [0, 1, 2]
 | 1 => [0, 1, 2, 25]
 | 2 => [6]
 | 3 => []
 | 4 => [6]
 | _ => []
theorem z_ae (fr : AFr) (H : Hp) : acode tp C (draws tp C) K (co f167) fr H = body fr H := by kernel_rfl
theorem sound : Sound tp 167 (.ref [false, false, false] spec) := sayT Tab.Sound.none func167 (by kernel_rfl) (by kernel_rfl) (fun a w => call167 a w) z_ae 3 (by decide +kernel) (g := res) (fun fr H => by kernel_rfl) fun args H r h => by
 unfold spec at h; split at h <;> first | exact ⟨rfl, h⟩ | cases h
end z_a9
end Go.Abs
end
section
end
section
namespace Go.Abs
open Go.Proofs.Try
namespace z_bq
def K : Nat → List Nat
 | 0 => [0]
 | 1 => [0, 3]
 | 2 => [0, 3, 4]
 | 3 => [0, 3, 4, 7]
 | 5 => [0, 3, 4]
 | 6 => [0, 3, 4]
 | 4 => [0, 3, 4]
 | 7 => [2]
 | _ => []
theorem z_ae (fr : AFr) (H : Hp) : acode tp C (draws tp C) K (co f96) fr H = body fr H := by kernel_rfl
theorem sound : Sound tp 96 (.pure false spec) := sayP Tab.Sound.none func96 (by kernel_rfl) (by kernel_rfl) (fun a w => call96 a w) z_ae 1 (by decide +kernel) (g := res) (fun fr H => by kernel_rfl) (ts := some [[some 1]]) (by kernel_rfl) fun args r h => by
 unfold spec at h; split at h <;> first | exact ⟨rfl, h⟩ | cases h
end z_bq
namespace z_bn
def K : Nat → List Nat
 | 0 => [0]
 | 1 => [0, 3]
 | 2 => [0, 3, 4]
 | 3 => [0, 3, 4, 9]
 | 5 => [0, 3, 4]
 | 6 => [0, 3, 4, 17]
 | 7 => [0, 3, 4]
 | 4 => [0, 3, 4]
 | 8 => [2]
 | _ => []
theorem z_ae (fr : AFr) (H : Hp) : acode tp C (draws tp C) K (co f97) fr H = body fr H := by kernel_rfl
theorem sound : Sound tp 97 (.pure false spec) := sayP Tab.Sound.none func97 (by kernel_rfl) (by kernel_rfl) (fun a w => call97 a w) z_ae 1 (by decide +kernel) (g := res) (fun fr H => by kernel_rfl) (ts := some [[none]]) (by kernel_rfl) fun args r h => by
 unfold spec at h; split at h <;> first | exact ⟨rfl, h⟩ | cases h
end z_bn
namespace z_c7
def K : Nat → List Nat
 | 0 => [0, 1, 2]
 | 1 => [2, 9, 10, 11]
 | 2 => [2, 9, 10, 11, 12]
 | 3 => [2, 9, 10, 11, 12, 20]
 | 5 => [2, 9, 10, 11, 12, 13]
 | 6 => [2, 9, 10, 11, 12, 13, 26]
 | 7 => [2, 9, 10, 11, 12, 13]
 | 8 => [2, 9, 10, 11, 12, 13, 32]
 | 9 => [2, 9, 10, 11, 12, 13]
 | 10 => [9, 10, 11, 12, 13, 35]
 | 11 => [9, 10, 11, 12, 13]
 | 12 => [2, 9, 10, 11, 12]
 | 4 => [2, 9, 10, 11, 12]
 | 13 => [6, 7, 8]
 | _ => []
theorem z_ae (s0 s1 : SpecP) (fr : AFr) (H : Hp) : acode tp (C s0 s1) (draws tp (C s0 s1)) K (co f46) fr H = body s0 s1 fr H := by kernel_rfl
theorem sound : Sound tp 46 (.pure false spec) := sayP ((Tab.Sound.none.add z_bq.sound).add z_bn.sound) func46 (by kernel_rfl) (by kernel_rfl) (fun a w => call46 a w) (z_ae z_bq.spec z_bn.spec) 3 (by decide +kernel) (g := res) (fun fr H => by kernel_rfl) (ts := some [[none], [none], [none]]) (by kernel_rfl) fun args r h => by
 unfold spec at h; split at h <;> first | exact ⟨rfl, h⟩ | cases h
end z_c7
namespace z_ap
def K : Nat → List Nat
 | 0 => [0, 1, 2, 3]
 | 1 => [0, 1, 2, 3, 19]
 | 2 => [8, 9]
 | 3 => [0, 1, 2, 3, 25]
 | 4 => [0, 1, 2, 3]
 | 5 => [0, 2, 3, 10]
 | 6 => [0, 2, 3, 10, 11]
 | 7 => [0, 2, 3, 10, 11, 37]
 | 9 => [0, 2, 10, 11, 12]
 | 10 => [0, 2, 10, 11, 12, 13]
 | 11 => [0, 2, 10, 11, 12, 13, 42]
 | 13 => [0, 2, 10, 11, 12, 13, 50]
 | 14 => [0, 2, 10, 11, 12, 13]
 | 15 => [0, 2, 10, 11, 12, 13, 64]
 | 16 => [0, 2, 10, 11, 12, 13]
 | 12 => [0, 2, 10, 11, 12, 13]
 | 17 => [0, 2, 10, 11, 12, 74]
 | 18 => [0, 2, 3, 10, 11, 12]
 | 19 => [0, 2, 3, 10, 11, 12]
 | 20 => [0, 2, 3, 10, 11, 12, 82]
 | 21 => [0, 2, 3, 10, 11, 12]
 | 22 => [0, 2, 3, 10, 11, 12, 89]
 | 23 => [0, 2, 3, 11, 12]
 | 24 => [0, 2, 3, 10, 11]
 | 8 => [0, 2, 3, 10, 11]
 | 25 => [8, 9]
 | _ => []
theorem z_ae (s0 s1 : SpecP) (fr : AFr) (H : Hp) : acode tp (C s0 s1) (draws tp (C s0 s1)) K (co f87) fr H = body s0 s1 fr H := by kernel_rfl
theorem sound : Sound tp 87 (.pure false spec) := sayP ((Tab.Sound.none.add z_bq.sound).add z_bn.sound) func87 (by kernel_rfl) (by kernel_rfl) (fun a w => call87 a w) (z_ae z_bq.spec z_bn.spec) 4 (by decide +kernel) (g := res) (fun fr H => by kernel_rfl) (ts := some [[none], [none]]) (by kernel_rfl) fun args r h => by
 unfold spec at h; split at h <;> first | exact ⟨rfl, h⟩ | cases h
end z_ap
namespace z_cy
def K : Nat → List Nat
 | 0 => [0, 1]
 | 1 => [1, 5]
 | 2 => [1, 5, 6]
 | 3 => [1, 5, 6, 12]
 | 5 => [1, 5, 6]
 | 4 => [1, 5, 6]
 | 6 => [4]
 | _ => []
theorem z_ae (s0 s1 : SpecP) (fr : AFr) (H : Hp) : acode tp (C s0 s1) (draws tp (C s0 s1)) K (co f88) fr H = body s0 s1 fr H := by kernel_rfl
theorem sound : Sound tp 88 (.pure false spec) := sayP ((Tab.Sound.none.add z_bq.sound).add z_bn.sound) func88 (by kernel_rfl) (by kernel_rfl) (fun a w => call88 a w) (z_ae z_bq.spec z_bn.spec) 2 (by decide +kernel) (g := res) (fun fr H => by kernel_rfl) (ts := some [[none]]) (by kernel_rfl) fun args r h => by
 unfold spec at h; split at h <;> first | exact ⟨rfl, h⟩ | cases h
end z_cy
end Go.Abs
end
end
section
namespace Go.Abs
open Go.Proofs.Try
namespace z_bw
def K : Nat → List Nat
 | 0 => [0]
 | 1 => [3]
 | 2 => [3, 4]
 | 3 => [3, 4]
 | 4 => [2]
 | 5 => [3, 7]
 | 6 => [7]
 | 7 => [2]
 | 8 => [2]
 | _ => []
theorem z_ae (fr : AFr) (H : Hp) : acode tp C (draws tp C) K (co f69) fr H = body fr H := by kernel_rfl
theorem sound : Sound tp 69 (.pure false spec) := sayP Tab.Sound.none func69 (by kernel_rfl) (by kernel_rfl) (fun a w => call69 a w) z_ae 1 (by decide +kernel) (g := res) (fun fr H => by kernel_rfl) (ts := some [[none]]) (by kernel_rfl) fun args r h => by
 unfold spec at h; split at h <;> first | exact ⟨rfl, h⟩ | cases h
end z_bw
namespace z_cq
def K : Nat → List Nat
 | 0 => [0]
 | 1 => [2]
 | _ => []
theorem z_ae (fr : AFr) (H : Hp) : acode tp C (draws tp C) K (co f70) fr H = body fr H := by kernel_rfl
theorem sound : Sound tp 70 (.pure false spec) := sayP Tab.Sound.none func70 (by kernel_rfl) (by kernel_rfl) (fun a w => call70 a w) z_ae 1 (by decide +kernel) (g := res) (fun fr H => by kernel_rfl) (ts := some [[none]]) (by kernel_rfl) fun args r h => by
 unfold spec at h; split at h <;> first | exact ⟨rfl, h⟩ | cases h
end z_cq
namespace z_a2
def K : Nat → List Nat
 | 0 => [0, 1]
 | 1 => [3]
 | _ => []
theorem z_ae (fr : AFr) (H : Hp) : acode tp C (draws tp C) K (co f140) fr H = body fr H := by kernel_rfl
theorem sound : Sound tp 140 (.ref [false] spec) := sayT Tab.Sound.none func140 (by kernel_rfl) (by kernel_rfl) (fun a w => call140 a w) z_ae 2 (by decide +kernel) (g := res) (fun fr H => by kernel_rfl) fun args H r h => by
 unfold spec at h; split at h <;> first | exact ⟨rfl, h⟩ | cases h
end z_a2
namespace z_ca
def K : Nat → List Nat
 | 0 => [0]
 | 1 => [2]
 | _ => []
theorem z_ae (s0 : SpecP) (fr : AFr) (H : Hp) : acode tp (C s0) (draws tp (C s0)) K (co f80) fr H = body s0 fr H := by kernel_rfl
theorem sound : Sound tp 80 (.pure false spec) := sayP (Tab.Sound.none.add z_cq.sound) func80 (by kernel_rfl) (by kernel_rfl) (fun a w => call80 a w) (z_ae z_cq.spec) 1 (by decide +kernel) (g := res) (fun fr H => by kernel_rfl) (ts := some [[none]]) (by kernel_rfl) fun args r h => by
 unfold spec at h; split at h <;> first | exact ⟨rfl, h⟩ | cases h
end z_ca
namespace z_b9
def K : Nat → List Nat
 | 0 => [0]
 | 1 => [2]
 | _ => []
theorem z_ae (s0 : SpecP) (fr : AFr) (H : Hp) : acode tp (C s0) (draws tp (C s0)) K (co f72) fr H = body s0 fr H := by kernel_rfl
theorem sound : Sound tp 72 (.pure false spec) := sayP (Tab.Sound.none.add z_cq.sound) func72 (by kernel_rfl) (by kernel_rfl) (fun a w => call72 a w) (z_ae z_cq.spec) 1 (by decide +kernel) (g := res) (fun fr H => by kernel_rfl) (ts := some [[none]]) (by kernel_rfl) fun args r h => by
 unfold spec at h; split at h <;> first | exact ⟨rfl, h⟩ | cases h
end z_b9
namespace z_am
def K : Nat → List Nat
 | 0 => [0, 1]
 | 1 => [0, 1, 7, 8]
 | 2 => [0, 1, 7, 8, 9]
 | 3 => [0, 1, 5, 7, 8]
 | 4 => [0, 1, 5, 7, 8, 16]
 | 5 => [4]
 | 6 => [0, 1, 7, 8]
 | 7 => [4]
 | _ => []
theorem z_ae (s0 s1 : SpecP) (s2 : SpecM) (fr : AFr) (H : Hp) : acode tp (C s0 s1 s2) (draws tp (C s0 s1 s2)) K (co f114) fr H = body s0 s1 s2 fr H := by kernel_rfl
theorem sound : Sound tp 114 (.ref [true, false] spec) := sayT (((Tab.Sound.none.add z_b9.sound).add z_ca.sound).add z_a2.sound) func114 (by kernel_rfl) (by kernel_rfl) (fun a w => call114 a w) (z_ae z_b9.spec z_ca.spec z_a2.spec) 2 (by decide +kernel) (g := res) (fun fr H => by kernel_rfl) fun args H r h => by
 unfold spec at h; split at h <;> first | exact ⟨rfl, h⟩ | cases h
end z_am
namespace z_ak
def K : Nat → List Nat
 | 0 => [0, 1]
 | 1 => [4]
 | _ => []
theorem z_ae (s0 : SpecM) (fr : AFr) (H : Hp) : acode tp (C s0) (draws tp (C s0)) K (co f71) fr H = body s0 fr H := by kernel_rfl
theorem sound : Sound tp 71 (.ref [true, false] spec) := sayT (Tab.Sound.none.add z_am.sound) func71 (by kernel_rfl) (by kernel_rfl) (fun a w => call71 a w) (z_ae z_am.spec) 2 (by decide +kernel) (g := res) (fun fr H => by kernel_rfl) fun args H r h => by
 unfold spec at h; split at h <;> first | exact ⟨rfl, h⟩ | cases h
end z_ak
namespace z_cp
def K : Nat → List Nat
 | 0 => [0, 1, 4]
 | 1 => [4]
 | _ => []
theorem z_ae (fr : AFr) (H : Hp) : acode tp C (draws tp C) K (co f78) fr H = body fr H := by kernel_rfl
theorem sound : Sound tp 78 (.pure false spec) := sayP Tab.Sound.none func78 (by kernel_rfl) (by kernel_rfl) (fun a w => call78 a w) z_ae 2 (by decide +kernel) (g := res) (fun fr H => by kernel_rfl) (ts := some [[none, none, none, none, none]]) (by kernel_rfl) fun args r h => by
 unfold spec at h; split at h <;> first | exact ⟨rfl, h⟩ | cases h
end z_cp
namespace z_cl
def K : Nat → List Nat
 | 0 => [0, 1, 4]
 | 1 => [4]
 | _ => []
theorem z_ae (fr : AFr) (H : Hp) : acode tp C (draws tp C) K (co f79) fr H = body fr H := by kernel_rfl
theorem sound : Sound tp 79 (.pure false spec) := sayP Tab.Sound.none func79 (by kernel_rfl) (by kernel_rfl) (fun a w => call79 a w) z_ae 2 (by decide +kernel) (g := res) (fun fr H => by kernel_rfl) (ts := some [[none, none, none, none, none]]) (by kernel_rfl) fun args r h => by
 unfold spec at h; split at h <;> first | exact ⟨rfl, h⟩ | cases h
end z_cl
namespace z_dm
def K : Nat → List Nat
 | 0 => [0, 1, 4]
 | 1 => [4]
 | _ => []
theorem z_ae (fr : AFr) (H : Hp) : acode tp C (draws tp C) K (co f121) fr H = body fr H := by kernel_rfl
theorem sound : Sound tp 121 (.pure false spec) := sayP Tab.Sound.none func121 (by kernel_rfl) (by kernel_rfl) (fun a w => call121 a w) z_ae 2 (by decide +kernel) (g := res) (fun fr H => by kernel_rfl) (ts := some [[none, none, none, none, none]]) (by kernel_rfl) fun args r h => by
 unfold spec at h; split at h <;> first | exact ⟨rfl, h⟩ | cases h
end z_dm
namespace z_ch
def K : Nat → List Nat
 | 0 => [0]
 | 1 => [0]
 | 2 => [0, 6]
 | 3 => [2]
 | 4 => [2]
 | _ => []
theorem z_ae (s0 s1 s2 : SpecP) (fr : AFr) (H : Hp) : acode tp (C s0 s1 s2) (draws tp (C s0 s1 s2)) K (co f77) fr H = body s0 s1 s2 fr H := by kernel_rfl
theorem sound : Sound tp 77 (.ref [false] spec) := sayR (((Tab.Sound.none.add z_cp.sound).add z_cl.sound).add z_dm.sound) func77 (by kernel_rfl) (by kernel_rfl) (fun a w => call77 a w) (z_ae z_cp.spec z_cl.spec z_dm.spec) 1 (by decide +kernel) (g := res) (fun fr H => by kernel_rfl) fun args H r h => by
 unfold spec at h; split at h <;> first | exact ⟨rfl, h⟩ | cases h
end z_ch
namespace z_d9
def K : Nat → List Nat
 | 0 => [0, 1]
 | 1 => [4]
 | _ => []
theorem z_ae (s0 : SpecM) (fr : AFr) (H : Hp) : acode tp (C s0) (draws tp (C s0)) K (co f115) fr H = body s0 fr H := by kernel_rfl
theorem sound : Sound tp 115 (.pure false spec) := sayP (Tab.Sound.none.add z_ch.sound) func115 (by kernel_rfl) (by kernel_rfl) (fun a w => call115 a w) (z_ae z_ch.spec) 2 (by decide +kernel) (g := res) (fun fr H => by kernel_rfl) (ts := some [[some 5]]) (by kernel_rfl) fun args r h => by
 unfold spec at h; split at h <;> first | exact ⟨rfl, h⟩ | cases h
end z_d9
namespace z_ea
def K : Nat → List Nat
 | 0 => [0, 1, 2, 6]
 | 1 => [6]
 | _ => []
theorem z_ae (fr : AFr) (H : Hp) : acode tp C (draws tp C) K (co f159) fr H = body fr H := by kernel_rfl
theorem sound : Sound tp 159 (.pure false spec) := sayP Tab.Sound.none func159 (by kernel_rfl) (by kernel_rfl) (fun a w => call159 a w) z_ae 3 (by decide +kernel) (g := res) (fun fr H => by kernel_rfl) (ts := some [[none, none, none, none, none]]) (by kernel_rfl) fun args r h => by
 unfold spec at h; split at h <;> first | exact ⟨rfl, h⟩ | cases h
end z_ea
namespace z_br
def K : Nat → List Nat
 | 0 => [0]
 | 1 => [0, 3]
 | 2 => [0, 3, 4]
 | 3 => [0, 3, 4, 7]
 | 5 => [0, 3, 4, 5]
 | 6 => [0, 3, 4, 5, 15]
 | 7 => [0, 3, 4]
 | 8 => [0, 3, 4, 5, 25]
 | 9 => [0, 3, 4]
 | 4 => [0, 3, 4]
 | 10 => [2]
 | _ => []
theorem z_ae (s0 s1 s2 : SpecP) (fr : AFr) (H : Hp) : acode tp (C s0 s1 s2) (draws tp (C s0 s1 s2)) K (co f160) fr H = body s0 s1 s2 fr H := by kernel_rfl
theorem sound : Sound tp 160 (.pure false spec) := sayP (((Tab.Sound.none.add z_cl.sound).add z_dm.sound).add z_cp.sound) func160 (by kernel_rfl) (by kernel_rfl) (fun a w => call160 a w) (z_ae z_cl.spec z_dm.spec z_cp.spec) 1 (by decide +kernel) (g := res) (fun fr H => by kernel_rfl) (ts := some [[some 5]]) (by kernel_rfl) fun args r h => by
 unfold spec at h; split at h <;> first | exact ⟨rfl, h⟩ | cases h
end z_br
namespace z_bv
def K : Nat → List Nat
 | 0 => [1]
 | 1 => [1, 4]
 | 2 => [1, 4, 5]
 | 3 => [2]
 | 4 => [1, 4, 9]
 | 5 => [2]
 | 6 => [1, 4, 13]
 | 7 => [2]
 | 8 => [1, 4, 17]
 | 9 => [2]
 | 10 => [1, 4, 24]
 | 11 => [1, 28]
 | 12 => [2]
 | 13 => [2]
 | 14 => [1, 4, 36]
 | 15 => [2]
 | 16 => [1, 4, 46]
 | 17 => [2]
 | 18 => [51]
 | 19 => [2]
 | 20 => [2]
 | _ => []
theorem z_ae (s0 s1 s2 s3 : SpecP) (fr : AFr) (H : Hp) : acode tp (C s0 s1 s2 s3) (draws tp (C s0 s1 s2 s3)) K (co f117) fr H = body s0 s1 s2 s3 fr H := by kernel_rfl
theorem sound : Sound tp 117 (.pure false spec) := sayP ((((Tab.Sound.none.add z_ea.sound).add z_cl.sound).add z_cp.sound).add z_br.sound) func117 (by kernel_rfl) (by kernel_rfl) (fun a w => call117 a w) (z_ae z_ea.spec z_cl.spec z_cp.spec z_br.spec) 1 (by decide +kernel) (g := res) (fun fr H => by kernel_rfl) (ts := some [[some 5]]) (by kernel_rfl) fun args r h => by
 unfold spec at h; split at h <;> first | exact ⟨rfl, h⟩ | cases h
end z_bv
namespace z_d8
def K : Nat → List Nat
 | 0 => [0]
 | 1 => [2]
 | _ => []
theorem z_ae (s0 : SpecM) (fr : AFr) (H : Hp) : acode tp (C s0) (draws tp (C s0)) K (co f118) fr H = body s0 fr H := by kernel_rfl
theorem sound : Sound tp 118 (.pure false spec) := sayP (Tab.Sound.none.add z_ch.sound) func118 (by kernel_rfl) (by kernel_rfl) (fun a w => call118 a w) (z_ae z_ch.spec) 1 (by decide +kernel) (g := res) (fun fr H => by kernel_rfl) (ts := some [[some 5]]) (by kernel_rfl) fun args r h => by
 unfold spec at h; split at h <;> first | exact ⟨rfl, h⟩ | cases h
end z_d8
namespace z_au
def K : Nat → List Nat
 | 0 => [0, 1]
 | 1 => [0, 1, 6]
 | 2 => [0, 1]
 | 3 => [0, 1]
 | 4 => [0, 1, 16]
 | 5 => [0]
 | 6 => [4]
 | _ => []
theorem z_ae (fr : AFr) (H : Hp) : acode tp C (draws tp C) K (co f158) fr H = body fr H := by kernel_rfl
theorem sound : Sound tp 158 (.ref [false, false] spec) := sayR Tab.Sound.none func158 (by kernel_rfl) (by kernel_rfl) (fun a w => call158 a w) z_ae 2 (by decide +kernel) (g := res) (fun fr H => by kernel_rfl) fun args H r h => by
 unfold spec at h; split at h <;> first | exact ⟨rfl, h⟩ | cases h
end z_au
namespace z_aj
def K : Nat → List Nat
 | 0 => [0]
 | 1 => [0, 3]
 | 2 => [0, 3, 9, 10, 11]
 | 3 => [0, 3, 9, 10, 11, 12]
 | 4 => [0, 3, 5, 9, 10, 11]
 | 5 => [0, 3, 9, 10, 11]
 | 6 => [0, 3, 9, 10, 11, 20]
 | 7 => [0, 3, 9, 10, 11]
 | 8 => [0, 3, 9, 10, 11]
 | 9 => [0, 6]
 | 10 => [6, 25, 26, 27]
 | 11 => [6, 25, 26, 27, 28]
 | 12 => [6, 8, 25, 26, 27]
 | 13 => [6, 25, 26, 27]
 | 14 => [6, 25, 26, 27]
 | 15 => [2]
 | _ => []
theorem z_ae (s0 : SpecM) (fr : AFr) (H : Hp) : acode tp (C s0) (draws tp (C s0)) K (co f116) fr H = body s0 fr H := by kernel_rfl
theorem sound : Sound tp 116 (.ref [false] spec) := sayR (Tab.Sound.none.add z_au.sound) func116 (by kernel_rfl) (by kernel_rfl) (fun a w => call116 a w) (z_ae z_au.spec) 1 (by decide +kernel) (g := res) (fun fr H => by kernel_rfl) fun args H r h => by
 unfold spec at h; split at h <;> first | exact ⟨rfl, h⟩ | cases h
end z_aj
namespace z_cj
def K : Nat → List Nat
 | 0 => [1, 2, 3]
 | 1 => [1, 2, 3, 7]
 | 2 => [1, 2, 3, 7, 14]
 | 3 => [1, 2, 3, 7]
 | 4 => [1, 3, 7, 19, 20, 21]
 | 5 => [1, 3, 7, 19, 20, 21, 22]
 | 6 => [1, 3, 7, 8, 9, 19, 20, 21]
 | 7 => [1, 3, 7, 19, 20, 21]
 | 8 => [1, 3, 7, 19, 20, 21]
 | 9 => [6]
 | _ => []
theorem z_ae (s0 s1 s2 s3 : SpecP) (s4 : SpecM) (fr : AFr) (H : Hp) : acode tp (C s0 s1 s2 s3 s4) (draws tp (C s0 s1 s2 s3 s4)) K (co f73) fr H = body s0 s1 s2 s3 s4 fr H := by kernel_rfl
theorem sound : Sound tp 73 (.pure false spec) := sayP (((((Tab.Sound.none.add z_cp.sound).add z_d9.sound).add z_bv.sound).add z_d8.sound).add z_aj.sound) func73 (by kernel_rfl) (by kernel_rfl) (fun a w => call73 a w) (z_ae z_cp.spec z_d9.spec z_bv.spec z_d8.spec z_aj.spec) 3 (by decide +kernel) (g := res) (fun fr H => by kernel_rfl) (ts := some [[some 5]]) (by kernel_rfl) fun args r h => by
 unfold spec at h; split at h <;> first | exact ⟨rfl, h⟩ | cases h
end z_cj
namespace z_c0
def K : Nat → List Nat
 | 0 => [1, 2, 3]
 | 1 => [1, 2, 3]
 | 2 => [1, 2, 3, 7]
 | 3 => [1, 2, 3, 32]
 | 4 => [6]
 | 5 => [6]
 | _ => []
theorem z_ae (s0 s1 s2 : SpecP) (s3 : SpecM) (s4 : SpecP) (fr : AFr) (H : Hp) : acode tp (C s0 s1 s2 s3 s4) (draws tp (C s0 s1 s2 s3 s4)) K (co f22) fr H = body s0 s1 s2 s3 s4 fr H := by kernel_rfl
theorem sound : Sound tp 22 (.pure false spec) := sayP (((((Tab.Sound.none.add z_d7.sound).add z_bw.sound).add z_cq.sound).add z_ak.sound).add z_cj.sound) func22 (by kernel_rfl) (by kernel_rfl) (fun a w => call22 a w) (z_ae z_d7.spec z_bw.spec z_cq.spec z_ak.spec z_cj.spec) 3 (by decide +kernel) (g := res) (fun fr H => by kernel_rfl) (ts := some [[some 5]]) (by kernel_rfl) fun args r h => by
 unfold spec at h; split at h <;> first | exact ⟨rfl, h⟩ | cases h
end z_c0
namespace z_da
def K : Nat → List Nat
 | 0 => []
 | 1 => [0]
 | _ => []
theorem z_ae (s0 s1 : SpecP) (fr : AFr) (H : Hp) : acode tp (C s0 s1) (draws tp (C s0 s1)) K (co f29) fr H = body s0 s1 fr H := by kernel_rfl
theorem sound : Sound tp 29 (.pure false spec) := sayP ((Tab.Sound.none.add z_cp.sound).add z_cl.sound) func29 (by kernel_rfl) (by kernel_rfl) (fun a w => call29 a w) (z_ae z_cp.spec z_cl.spec) 0 (by decide +kernel) (g := res) (fun fr H => by kernel_rfl) (ts := some [[some 5]]) (by kernel_rfl) fun args r h => by
 unfold spec at h; split at h <;> first | exact ⟨rfl, h⟩ | cases h
end z_da
namespace z_bb
def K : Nat → List Nat
 | 0 => [0, 1]
 | 1 => [0, 9, 10, 11]
 | 2 => [0, 9, 10, 11, 12]
 | 3 => [0, 6, 9, 10, 11]
 | 4 => [0, 7, 9, 10, 11]
 | 5 => [0, 9, 10, 11]
 | 6 => [0, 9, 10, 11]
 | 7 => [4]
 | _ => []
theorem z_ae (s0 : SpecP) (fr : AFr) (H : Hp) : acode tp (C s0) (draws tp (C s0)) K (co f81) fr H = body s0 fr H := by kernel_rfl
theorem sound : Sound tp 81 (.ref [false, false] spec) := sayR (Tab.Sound.none.add z_dd.sound) func81 (by kernel_rfl) (by kernel_rfl) (fun a w => call81 a w) (z_ae z_dd.spec) 2 (by decide +kernel) (g := res) (fun fr H => by kernel_rfl) fun args H r h => by
 unfold spec at h; split at h <;> first | exact ⟨rfl, h⟩ | cases h
end z_bb
namespace z_cc
def K : Nat → List Nat
 | 0 => [1, 2]
 | 1 => [1, 2, 29]
 | 2 => [4, 5]
 | 3 => [1, 2, 6]
 | 4 => [1, 2, 6, 33, 34, 35]
 | 5 => [1, 2, 6, 33, 34, 35, 36]
 | 6 => [1, 2, 6, 7, 8, 33, 34, 35]
 | 7 => [1, 2, 6, 7, 8, 9, 33, 34, 35]
 | 8 => [1, 2, 6, 7, 8, 9, 33, 34, 35, 44, 45]
 | 9 => [1, 2, 6, 7, 8, 9, 33, 34, 35, 44, 45, 46]
 | 10 => [1, 2, 6, 7, 8, 9, 10, 11, 33, 34, 35, 44, 45]
 | 11 => [1, 2, 6, 7, 8, 9, 11, 33, 34, 35, 44, 45, 53]
 | 12 => [1, 2, 6, 7, 8, 9, 33, 34, 35, 44, 45]
 | 13 => [1, 2, 6, 7, 8, 9, 33, 34, 35, 44, 45]
 | 14 => [1, 2, 6, 33, 34, 35]
 | 15 => [1, 2, 6, 33, 34, 35, 76]
 | 16 => [4, 5]
 | 17 => [1, 2, 6, 33, 34, 35]
 | 18 => [4, 5]
 | _ => []
theorem z_ae (s0 : SpecP) (s1 : SpecM) (s2 : SpecP) (s3 : SpecM) (s4 s5 : SpecP) (fr : AFr) (H : Hp) : acode tp (C s0 s1 s2 s3 s4 s5) (draws tp (C s0 s1 s2 s3 s4 s5)) K (co f32) fr H = body s0 s1 s2 s3 s4 s5 fr H := by kernel_rfl
theorem sound : Sound tp 32 (.pure false spec) := sayP ((((((Tab.Sound.none.add z_d7.sound).add z_ak.sound).add z_da.sound).add z_bb.sound).add z_bw.sound).add z_cj.sound) func32 (by kernel_rfl) (by kernel_rfl) (fun a w => call32 a w) (z_ae z_d7.spec z_ak.spec z_da.spec z_bb.spec z_bw.spec z_cj.spec) 2 (by decide +kernel) (g := res) (fun fr H => by kernel_rfl) (ts := some [[some 1], [none]]) (by kernel_rfl) fun args r h => by
 unfold spec at h; split at h <;> first | exact ⟨rfl, h⟩ | cases h
end z_cc
end Go.Abs
end
section
namespace Go.Abs
open Go.Proofs.Try
namespace z_dn
def K : Nat → List Nat
 | 0 => [1, 2]
 | 1 => [2]
 | _ => []
theorem z_ae (fr : AFr) (H : Hp) : acode tp C (draws tp C) K (co f33) fr H = body fr H := by kernel_rfl
theorem sound : Sound tp 33 (.pure false spec) := sayP Tab.Sound.none func33 (by kernel_rfl) (by kernel_rfl) (fun a w => call33 a w) z_ae 1 (by decide +kernel) (g := res) (fun fr H => by kernel_rfl) (ts := some [[none, some 4, some 1]]) (by kernel_rfl) fun args r h => by
 unfold spec at h; split at h <;> first | exact ⟨rfl, h⟩ | cases h
end z_dn
namespace z_bf
def K : Nat → List Nat
 | 0 => [1]
 | 1 => [1, 3]
 | 2 => [1, 3, 4]
 | 3 => [1, 3, 4, 9]
 | 5 => [1, 3, 4, 18]
 | 6 => [1, 3, 4]
 | 4 => [1, 3, 4]
 | 7 => [2]
 | _ => []
theorem z_ae (fr : AFr) (H : Hp) : acode tp C (draws tp C) K (co f39) fr H = body fr H := by kernel_rfl
theorem sound : Sound tp 39 (.pure false spec) := sayP Tab.Sound.none func39 (by kernel_rfl) (by kernel_rfl) (fun a w => call39 a w) z_ae 1 (by decide +kernel) (g := res) (fun fr H => by kernel_rfl) (ts := some [[none]]) (by kernel_rfl) fun args r h => by
 unfold spec at h; split at h <;> first | exact ⟨rfl, h⟩ | cases h
end z_bf
namespace z_a0
def K : Nat → List Nat
 | 0 => [0]
 | 1 => [0, 8]
 | 2 => [2]
 | 3 => [18]
 | 4 => [2]
 | 5 => [2]
 | _ => []
theorem z_ae (fr : AFr) (H : Hp) : acode tp C (draws tp C) K (co f74) fr H = body fr H := by kernel_rfl
theorem sound : Sound tp 74 (.pure false spec) := sayP Tab.Sound.none func74 (by kernel_rfl) (by kernel_rfl) (fun a w => call74 a w) z_ae 1 (by decide +kernel) (g := res) (fun fr H => by kernel_rfl) (ts := some [[none]]) (by kernel_rfl) fun args r h => by
 unfold spec at h; split at h <;> first | exact ⟨rfl, h⟩ | cases h
end z_a0
namespace z_a8
def K : Nat → List Nat
 | 0 => [1]
 | 1 => [1, 21]
 | 2 => [2]
 | 3 => [1, 3]
 | 4 => [1, 3, 26]
 | 6 => [1, 3, 4]
 | 7 => [1, 3, 4, 5, 6]
 | 8 => [1, 3, 4, 96]
 | 9 => [2]
 | 10 => [1, 3, 124]
 | 11 => [2]
 | 5 => [1, 3]
 | 12 => [1, 7]
 | 13 => [1, 7, 129]
 | 15 => [1, 7, 151]
 | 16 => [2]
 | 14 => [1, 7]
 | 17 => [2]
 | _ => []
theorem z_ae (s0 : SpecP) (fr : AFr) (H : Hp) : acode tp (C s0) (draws tp (C s0)) K (co f82) fr H = body s0 fr H := by kernel_rfl
theorem sound : Sound tp 82 (.pure false spec) := sayP (Tab.Sound.none.add z_a0.sound) func82 (by kernel_rfl) (by kernel_rfl) (fun a w => call82 a w) (z_ae z_a0.spec) 1 (by decide +kernel) (g := res) (fun fr H => by kernel_rfl) (ts := some [[none]]) (by kernel_rfl) fun args r h => by
 unfold spec at h; split at h <;> first | exact ⟨rfl, h⟩ | cases h
end z_a8
namespace z_bd
def K : Nat → List Nat
 | 0 => [1, 2, 3]
 | 1 => [1, 2, 3, 8, 9]
 | 2 => [1, 2, 3, 8, 9, 26]
 | 3 => [6, 7]
 | 4 => [1, 2, 3, 8, 9, 10]
 | 5 => [1, 2, 3, 8, 9, 10, 31]
 | 7 => [1, 2, 3, 8, 9, 10, 37]
 | 8 => [1, 2, 3, 8, 9, 10]
 | 9 => [1, 2, 3, 8, 9, 10]
 | 6 => [1, 2, 3, 8, 9, 10]
 | 10 => [2, 3, 8, 9, 11]
 | 11 => [2, 3, 8, 9, 11, 52]
 | 13 => [2, 3, 8, 9, 11, 12]
 | 14 => [2, 3, 8, 9, 11, 12, 14, 15]
 | 15 => [2, 3, 8, 9, 11, 12, 14, 15, 63]
 | 16 => [2, 3, 8, 9, 11, 12, 14, 15]
 | 17 => [2, 3, 8, 9, 11, 12, 14, 15, 72]
 | 18 => [2, 3, 8, 9, 11, 12, 14, 15]
 | 19 => [2, 3, 8, 9, 11, 12, 14, 15, 79]
 | 21 => [2, 3, 8, 9, 11, 12, 14, 15, 79, 81]
 | 22 => [2, 3, 8, 9, 11, 13]
 | 23 => [2, 3, 8, 9, 11, 12, 14, 15, 79, 89]
 | 24 => [2, 3, 8, 9, 11, 13]
 | 25 => [2, 3, 8, 9, 11, 12, 14, 15, 79, 94]
 | 26 => [2, 3, 8, 9, 11, 13]
 | 27 => [2, 3, 8, 9, 11, 12, 14, 79, 99]
 | 28 => [2, 3, 8, 9, 11, 13]
 | 29 => [2, 3, 8, 9, 11, 12, 14, 79, 103]
 | 30 => [2, 3, 8, 9, 11, 13]
 | 31 => [2, 3, 8, 9, 11, 12, 14, 79, 112]
 | 32 => [2, 3, 8, 9, 11, 13]
 | 33 => [2, 3, 8, 9, 11, 12, 14, 79, 121]
 | 34 => [2, 3, 8, 9, 11, 13]
 | 35 => [2, 3, 8, 9, 11, 12, 14, 127]
 | 36 => [2, 3, 8, 9, 11, 13]
 | 20 => [2, 3, 8, 9, 11, 13]
 | 37 => [2, 3, 8, 9, 11]
 | 12 => [2, 3, 8, 9, 11]
 | 38 => [6, 7]
 | _ => []
theorem z_ae (s0 s1 s2 s3 s4 : SpecP) (fr : AFr) (H : Hp) : acode tp (C s0 s1 s2 s3 s4) (draws tp (C s0 s1 s2 s3 s4)) K (co f41) fr H = body s0 s1 s2 s3 s4 fr H := by kernel_rfl
theorem sound : Sound tp 41 (.pure false spec) := sayP (((((Tab.Sound.none.add z_a8.sound).add z_bf.sound).add z_a0.sound).add z_ap.sound).add z_cy.sound) func41 (by kernel_rfl) (by kernel_rfl) (fun a w => call41 a w) (z_ae z_a8.spec z_bf.spec z_a0.spec z_ap.spec z_cy.spec) 3 (by decide +kernel) (g := res) (fun fr H => by kernel_rfl) (ts := some [[some 1], [none]]) (by kernel_rfl) fun args r h => by
 unfold spec at h; split at h <;> first | exact ⟨rfl, h⟩ | cases h
end z_bd
end Go.Abs
end
section
namespace Go.Abs
open Go.Proofs.Try
namespace z_ci
noncomputable def code : Code := match f76.body with | some c => c | none => .skip
def K : Nat → List Nat
 | 0 => [0]
 | 1 => [0, 4]
 | 2 => [2]
 | 3 => [0, 10]
 | 4 => [2]
 | 5 => [2]
 | _ => []
noncomputable def CC (k : Nat) : Tab := C (fuel k)
theorem CS (k : Nat) (h : Sound prog 76 (.pure false (fuel k))) : (CC k).Sound prog := (Tab.Sound.none.add h)
theorem z_ae (s0 : SpecP) (fr : AFr) (H : Hp) : acode prog (C s0) (draws prog (C s0)) K code fr H = body s0 fr H := by kernel_rfl
theorem callable : Callable prog 76 := fun args w => call76 args w
theorem hf : prog.funcs[76]? = some f76 := func76
theorem hb : f76.body = some code := by kernel_rfl
theorem hok : z_ek f76.ntmps code = true := by kernel_rfl
theorem run_eq (k : Nat) (a0 : AV) : z_m9 prog (CC k) (draws prog (CC k)) K f76 code [a0] = step (fuel k) [a0] := by
 unfold z_m9 arun
 rw [if_pos (show [a0].length ≤ f76.ntmps from (by decide +kernel : 1 ≤ f76.ntmps))]
 unfold afin
 rw [show acode prog (CC k) (draws prog (CC k)) K code (args0 [a0]) Hp.empty = body (fuel k) (args0 [a0]) Hp.empty from z_ae (fuel k) _ _]
 kernel_rfl
theorem z_kx : ∀ k, Sound prog 76 (.pure false (fuel k))
 | 0 => ⟨callable, fun _ _ h => by cases h⟩
 | k + 1 => (z_kw (CS k (z_kx k)) Mixed (draws _ _) K hf hb hok callable).less fun args r h => by
  change step (fuel k) args = some r at h
  unfold step at h
  split at h
  ·rw [run_eq]; exact h
  ·cases h
theorem sound : Sound prog 76 (.pure false spec) := z_kx 64
end z_ci
namespace z_c6
def K : Nat → List Nat
 | 0 => [0]
 | 1 => [2]
 | _ => []
theorem z_ae (s0 : SpecP) (fr : AFr) (H : Hp) : acode tp (C s0) (draws tp (C s0)) K (co f119) fr H = body s0 fr H := by kernel_rfl
theorem sound : Sound tp 119 (.pure false spec) := sayP (Tab.Sound.none.add z_ci.sound) func119 (by kernel_rfl) (by kernel_rfl) (fun a w => call119 a w) (z_ae z_ci.spec) 1 (by decide +kernel) (g := res) (fun fr H => by kernel_rfl) (ts := some [[none]]) (by kernel_rfl) fun args r h => by
 unfold spec at h; split at h <;> first | exact ⟨rfl, h⟩ | cases h
end z_c6
namespace z_do
def K : Nat → List Nat
 | 0 => [0]
 | 1 => [2]
 | _ => []
theorem z_ae (s0 : SpecP) (fr : AFr) (H : Hp) : acode tp (C s0) (draws tp (C s0)) K (co f120) fr H = body s0 fr H := by kernel_rfl
theorem sound : Sound tp 120 (.pure false spec) := sayP (Tab.Sound.none.add z_ci.sound) func120 (by kernel_rfl) (by kernel_rfl) (fun a w => call120 a w) (z_ae z_ci.spec) 1 (by decide +kernel) (g := res) (fun fr H => by kernel_rfl) (ts := some [[none]]) (by kernel_rfl) fun args r h => by
 unfold spec at h; split at h <;> first | exact ⟨rfl, h⟩ | cases h
end z_do
namespace z_bh
def K : Nat → List Nat
 | 0 => [1]
 | 1 => [1, 8]
 | 2 => [2, 3]
 | 3 => [1, 4]
 | 4 => [1, 4, 5]
 | 5 => [1, 4, 5, 15]
 | 6 => [2, 3]
 | 7 => [1, 4, 5, 28]
 | 8 => [2, 3]
 | 9 => [1, 4, 5, 47]
 | 10 => [2, 3]
 | 11 => [1, 4, 5, 66]
 | 12 => [2, 3]
 | 13 => [1, 4, 5, 85]
 | 14 => [2, 3]
 | 15 => [1, 4, 5, 100]
 | 16 => [2, 3]
 | 17 => [1, 4, 5, 122]
 | 18 => [2, 3]
 | 19 => [1, 4, 5, 143]
 | 20 => [2, 3]
 | 21 => [1, 5, 155]
 | 22 => [2, 3]
 | 23 => [1, 5, 163]
 | 24 => [2, 3]
 | 25 => [1, 177]
 | 26 => [2, 3]
 | 27 => [2, 3]
 | _ => []
theorem z_ae (s0 s1 s2 : SpecP) (fr : AFr) (H : Hp) : acode tp (C s0 s1 s2) (draws tp (C s0 s1 s2)) K (co f75) fr H = body s0 s1 s2 fr H := by kernel_rfl
theorem sound : Sound tp 75 (.pure false spec) := sayP (((Tab.Sound.none.add z_ah.sound).add z_c6.sound).add z_do.sound) func75 (by kernel_rfl) (by kernel_rfl) (fun a w => call75 a w) (z_ae z_ah.spec z_c6.spec z_do.spec) 1 (by decide +kernel) (g := res) (fun fr H => by kernel_rfl) (ts := some [[none], [none]]) (by kernel_rfl) fun args r h => by
 unfold spec at h; split at h <;> first | exact ⟨rfl, h⟩ | cases h
end z_bh
end Go.Abs
end
section
namespace Go.Abs
open Go.Proofs.Try
namespace z_cw
def K : Nat → List Nat
 | 0 => [0, 1]
 | 1 => [0, 1, 12]
 | 2 => [4]
 | 3 => [0, 1, 5]
 | 4 => [0, 1, 5, 16]
 | 6 => [0, 1, 5, 6, 7]
 | 7 => [0, 1, 5, 36]
 | 8 => [4]
 | 5 => [0, 1, 5]
 | 9 => [4]
 | _ => []
theorem z_ae (s0 : SpecP) (fr : AFr) (H : Hp) : acode tp (C s0) (draws tp (C s0)) K (co f25) fr H = body s0 fr H := by kernel_rfl
theorem sound : Sound tp 25 (.pure false spec) := sayP (Tab.Sound.none.add z_bh.sound) func25 (by kernel_rfl) (by kernel_rfl) (fun a w => call25 a w) (z_ae z_bh.spec) 2 (by decide +kernel) (g := res) (fun fr H => by kernel_rfl) (ts := some [[none]]) (by kernel_rfl) fun args r h => by
 unfold spec at h; split at h <;> first | exact ⟨rfl, h⟩ | cases h
end z_cw
end Go.Abs
end
section
namespace Go.Abs
open Go.Proofs.Try
namespace z_bx
def K : Nat → List Nat
 | 0 => [1]
 | 1 => [1, 3]
 | 2 => [1, 3, 9]
 | 4 => [1, 3, 4]
 | 5 => [1, 3, 4, 14]
 | 7 => [1, 3, 4, 27]
 | 8 => [2]
 | 6 => [1, 3, 4]
 | 9 => [1, 3, 35]
 | 10 => [2]
 | 3 => [1, 3]
 | 11 => [2]
 | _ => []
theorem z_ae (s0 : SpecP) (fr : AFr) (H : Hp) : acode tp (C s0) (draws tp (C s0)) K (co f36) fr H = body s0 fr H := by kernel_rfl
theorem sound : Sound tp 36 (.pure false spec) := sayP (Tab.Sound.none.add z_a8.sound) func36 (by kernel_rfl) (by kernel_rfl) (fun a w => call36 a w) (z_ae z_a8.spec) 1 (by decide +kernel) (g := res) (fun fr H => by kernel_rfl) (ts := some [[none]]) (by kernel_rfl) fun args r h => by
 unfold spec at h; split at h <;> first | exact ⟨rfl, h⟩ | cases h
end z_bx
namespace z_bm
def K : Nat → List Nat
 | 0 => [1]
 | 1 => [1, 3]
 | 2 => [1, 3, 11]
 | 3 => [2]
 | 4 => [1, 3, 4]
 | 5 => [1, 3, 4, 20]
 | 7 => [1, 3, 4, 26]
 | 8 => [1, 3, 4]
 | 9 => [1, 3, 4]
 | 6 => [1, 3, 4]
 | 10 => [1, 3, 5]
 | 11 => [1, 3, 5, 41]
 | 13 => [1, 3, 5, 6]
 | 14 => [1, 3, 5, 6, 52]
 | 15 => [1, 3, 5, 6]
 | 16 => [1, 3, 5, 6, 61]
 | 17 => [1, 3, 5]
 | 12 => [1, 3, 5]
 | 18 => [1, 3, 7]
 | 19 => [1, 3, 7, 71]
 | 21 => [1, 3, 7]
 | 20 => [1, 3, 7]
 | 22 => [2]
 | _ => []
theorem z_ae (s0 s1 : SpecP) (fr : AFr) (H : Hp) : acode tp (C s0 s1) (draws tp (C s0 s1)) K (co f122) fr H = body s0 s1 fr H := by kernel_rfl
theorem sound : Sound tp 122 (.pure false spec) := sayP ((Tab.Sound.none.add z_a8.sound).add z_a0.sound) func122 (by kernel_rfl) (by kernel_rfl) (fun a w => call122 a w) (z_ae z_a8.spec z_a0.spec) 1 (by decide +kernel) (g := res) (fun fr H => by kernel_rfl) (ts := some [[some 1]]) (by kernel_rfl) fun args r h => by
 unfold spec at h; split at h <;> first | exact ⟨rfl, h⟩ | cases h
end z_bm
namespace z_bk
def K : Nat → List Nat
 | 0 => [1]
 | 1 => [1, 16]
 | 2 => [2, 3, 4]
 | 3 => [1, 5, 6, 7, 8]
 | 4 => [1, 5, 6, 7, 8, 9]
 | 5 => [1, 5, 6, 7, 8, 9, 37]
 | 7 => [1, 5, 6, 7, 8, 9]
 | 6 => [1, 5, 6, 7, 8, 9]
 | 8 => [1, 5, 6, 7, 8, 10]
 | 9 => [1, 5, 6, 7, 8, 10, 48]
 | 11 => [1, 5, 6, 7, 8, 10]
 | 10 => [1, 5, 6, 7, 8, 10]
 | 12 => [1, 5, 6, 7, 8, 11]
 | 13 => [1, 5, 6, 7, 8, 11, 66]
 | 15 => [1, 5, 6, 7, 8, 11, 12]
 | 16 => [1, 5, 6, 7, 8, 11, 12, 80]
 | 17 => [1, 5, 6, 7, 8, 11, 12, 13]
 | 18 => [1, 5, 6, 7, 8, 11, 12, 13, 92]
 | 19 => [1, 5, 6, 7, 8, 11, 12, 13]
 | 20 => [1, 5, 6, 7, 8, 11, 12, 13, 98]
 | 21 => [1, 5, 6, 7, 8, 11, 12, 13]
 | 22 => [1, 5, 6, 7, 8, 11]
 | 14 => [1, 5, 6, 7, 8, 11]
 | 23 => [5, 7, 8, 119]
 | 24 => [2, 3, 4]
 | 25 => [2, 3, 4]
 | _ => []
theorem z_ae (s0 s1 : SpecP) (fr : AFr) (H : Hp) : acode tp (C s0 s1) (draws tp (C s0 s1)) K (co f84) fr H = body s0 s1 fr H := by kernel_rfl
theorem sound : Sound tp 84 (.pure false spec) := sayP ((Tab.Sound.none.add z_bx.sound).add z_bm.sound) func84 (by kernel_rfl) (by kernel_rfl) (fun a w => call84 a w) (z_ae z_bx.spec z_bm.spec) 1 (by decide +kernel) (g := res) (fun fr H => by kernel_rfl) (ts := some [[some 1], [none], [none]]) (by kernel_rfl) fun args r h => by
 unfold spec at h; split at h <;> first | exact ⟨rfl, h⟩ | cases h
end z_bk
end Go.Abs
end
section
namespace Go.Abs
open Go.Proofs.Try
namespace z_c2
def K : Nat → List Nat
 | 0 => [1, 2, 4]
 | 1 => [2, 4]
 | 2 => [4]
 | _ => []
theorem z_ae (fr : AFr) (H : Hp) : acode tp C (draws tp C) K (co f187) fr H = body fr H := by kernel_rfl
theorem sound : Sound tp 187 (.pure false spec) := sayP Tab.Sound.none func187 (by kernel_rfl) (by kernel_rfl) (fun a w => call187 a w) z_ae 2 (by decide +kernel) (g := res) (fun fr H => by kernel_rfl) (ts := some [[none, none, none, none, none, none, none, none, none, none, none, none, none]]) (by kernel_rfl) fun args r h => by
 unfold spec at h; split at h <;> first | exact ⟨rfl, h⟩ | cases h
end z_c2
namespace z_b8
def K : Nat → List Nat
 | 0 => [1, 2, 3, 6]
 | 1 => [1, 2, 3, 6]
 | 2 => [1, 2, 3, 6, 11]
 | 3 => [3, 6]
 | 4 => [6]
 | _ => []
theorem z_ae (s0 : SpecP) (fr : AFr) (H : Hp) : acode tp (C s0) (draws tp (C s0)) K (co f161) fr H = body s0 fr H := by kernel_rfl
theorem sound : Sound tp 161 (.pure false spec) := sayP (Tab.Sound.none.add z_c2.sound) func161 (by kernel_rfl) (by kernel_rfl) (fun a w => call161 a w) (z_ae z_c2.spec) 3 (by decide +kernel) (g := res) (fun fr H => by kernel_rfl) (ts := some [[none, none, none, none, none, none, none, none, none, none, none, none, none]]) (by kernel_rfl) fun args r h => by
 unfold spec at h; split at h <;> first | exact ⟨rfl, h⟩ | cases h
end z_b8
namespace z_dh
def K : Nat → List Nat
 | 0 => [0]
 | 1 => [2]
 | _ => []
theorem z_ae (fr : AFr) (H : Hp) : acode tp C (draws tp C) K (co f163) fr H = body fr H := by kernel_rfl
theorem sound : Sound tp 163 (.pure false spec) := sayP Tab.Sound.none func163 (by kernel_rfl) (by kernel_rfl) (fun a w => call163 a w) z_ae 1 (by decide +kernel) (g := res) (fun fr H => by kernel_rfl) (ts := some [[none]]) (by kernel_rfl) fun args r h => by
 unfold spec at h; split at h <;> first | exact ⟨rfl, h⟩ | cases h
end z_dh
namespace z_c1
def K : Nat → List Nat
 | 0 => [1, 2, 3, 4, 5, 10]
 | 1 => [4, 5, 10, 11, 12, 13]
 | 2 => [4, 5, 10, 11]
 | 3 => [10]
 | _ => []
theorem z_ae (s0 s1 : SpecP) (fr : AFr) (H : Hp) : acode tp (C s0 s1) (draws tp (C s0 s1)) K (co f162) fr H = body s0 s1 fr H := by kernel_rfl
theorem sound : Sound tp 162 (.pure false spec) := sayP ((Tab.Sound.none.add z_c7.sound).add z_b8.sound) func162 (by kernel_rfl) (by kernel_rfl) (fun a w => call162 a w) (z_ae z_c7.spec z_b8.spec) 5 (by decide +kernel) (g := res) (fun fr H => by kernel_rfl) (ts := some [[none, none, none, none, none, none, none, none, none, none, none, none, none]]) (by kernel_rfl) fun args r h => by
 unfold spec at h; split at h <;> first | exact ⟨rfl, h⟩ | cases h
end z_c1
namespace z_cg
def K : Nat → List Nat
 | 0 => [1, 2, 3, 4, 5, 10]
 | 1 => [4, 5, 10, 11, 12]
 | 2 => [4, 5, 10, 11]
 | 3 => [10]
 | _ => []
theorem z_ae (s0 s1 : SpecP) (fr : AFr) (H : Hp) : acode tp (C s0 s1) (draws tp (C s0 s1)) K (co f164) fr H = body s0 s1 fr H := by kernel_rfl
theorem sound : Sound tp 164 (.pure false spec) := sayP ((Tab.Sound.none.add z_ap.sound).add z_b8.sound) func164 (by kernel_rfl) (by kernel_rfl) (fun a w => call164 a w) (z_ae z_ap.spec z_b8.spec) 5 (by decide +kernel) (g := res) (fun fr H => by kernel_rfl) (ts := some [[none, none, none, none, none, none, none, none, none, none, none, none, none]]) (by kernel_rfl) fun args r h => by
 unfold spec at h; split at h <;> first | exact ⟨rfl, h⟩ | cases h
end z_cg
namespace z_aq
def K : Nat → List Nat
 | 0 => [1, 2, 3, 4, 5, 10]
 | 1 => [1, 2, 3, 4, 5, 10, 11]
 | 2 => [1, 2, 3, 4, 5, 10, 11, 12]
 | 3 => [10]
 | 4 => [1, 2, 3, 4, 5, 10, 11, 20]
 | 5 => [10]
 | 6 => [1, 2, 3, 4, 5, 10, 11, 28]
 | 7 => [1, 2, 3, 4, 5, 10, 11, 28]
 | 8 => [1, 2, 3, 4, 5, 10, 11, 28]
 | 9 => [10]
 | 10 => [2, 3, 4, 5, 10, 11, 40]
 | 11 => [10]
 | 12 => [2, 3, 4, 5, 10, 11, 49]
 | 13 => [10]
 | 14 => [2, 3, 4, 5, 10, 11, 59]
 | 15 => [10]
 | 16 => [2, 3, 4, 5, 10, 11, 67]
 | 17 => [10]
 | 18 => [2, 3, 4, 5, 10, 11, 74]
 | 19 => [10]
 | 20 => [2, 3, 4, 5, 10, 11, 81]
 | 21 => [10]
 | 22 => [2, 3, 4, 5, 10, 11, 88]
 | 23 => [10]
 | 24 => [2, 3, 4, 5, 10, 11, 94]
 | 25 => [10]
 | 26 => [2, 3, 4, 5, 10, 11, 102]
 | 27 => [10]
 | 28 => [2, 3, 4, 5, 10, 110]
 | 29 => [10]
 | 30 => [10]
 | _ => []
theorem z_ae (s0 s1 s2 s3 : SpecP) (fr : AFr) (H : Hp) : acode tp (C s0 s1 s2 s3) (draws tp (C s0 s1 s2 s3)) K (co f165) fr H = body s0 s1 s2 s3 fr H := by kernel_rfl
theorem sound : Sound tp 165 (.pure false spec) := sayP ((((Tab.Sound.none.add z_b8.sound).add z_cg.sound).add z_c1.sound).add z_dh.sound) func165 (by kernel_rfl) (by kernel_rfl) (fun a w => call165 a w) (z_ae z_b8.spec z_cg.spec z_c1.spec z_dh.spec) 5 (by decide +kernel) (g := res) (fun fr H => by kernel_rfl) (ts := some [[none, none, none, none, none, none, none, none, none, none, none, none, none]]) (by kernel_rfl) fun args r h => by
 unfold spec at h; split at h <;> first | exact ⟨rfl, h⟩ | cases h
end z_aq
namespace z_bo
def K : Nat → List Nat
 | 0 => [0, 3]
 | 1 => [0, 3, 10]
 | 2 => [4]
 | 3 => [4]
 | _ => []
theorem z_ae (fr : AFr) (H : Hp) : acode tp C (draws tp C) K (co f168) fr H = body fr H := by kernel_rfl
theorem sound : Sound tp 168 (.pure false spec) := sayP Tab.Sound.none func168 (by kernel_rfl) (by kernel_rfl) (fun a w => call168 a w) z_ae 2 (by decide +kernel) (g := res) (fun fr H => by kernel_rfl) (ts := some [[none]]) (by kernel_rfl) fun args r h => by
 unfold spec at h; split at h <;> first | exact ⟨rfl, h⟩ | cases h
end z_bo
namespace z_aw
def K : Nat → List Nat
 | 0 => [1, 2, 4]
 | 1 => [1, 2, 4, 7, 8]
 | 2 => [1, 2, 4, 7, 8, 25]
 | 3 => [4, 5, 6]
 | 4 => [1, 2, 4, 9, 10]
 | 5 => [1, 2, 4, 9, 10, 34]
 | 6 => [4, 5, 6]
 | 7 => [1, 2, 4, 9, 11, 12, 13]
 | 8 => [1, 2, 4, 9, 11, 12, 13, 14, 15, 16]
 | 9 => [1, 2, 4, 8, 9, 11, 12, 13, 14, 15, 16]
 | 10 => [1, 2, 4, 8, 9, 11, 12, 13, 14, 15, 16, 61]
 | 11 => [1, 2, 4, 8, 9, 11, 12, 13, 14, 15, 16, 61, 62]
 | 12 => [2, 4, 8, 12, 13]
 | 13 => [1, 2, 4, 8, 9, 11, 12, 13, 14, 15, 16, 61, 69]
 | 14 => [2, 4, 8, 12, 13]
 | 15 => [1, 2, 4, 8, 9, 11, 12, 13, 14, 15, 16, 61, 76]
 | 16 => [2, 4, 8, 12, 13]
 | 17 => [1, 2, 4, 8, 9, 11, 12, 13, 14, 15, 16, 61, 84]
 | 18 => [2, 4, 8, 12, 13]
 | 19 => [1, 2, 4, 8, 9, 11, 12, 13, 14, 15, 16, 61, 93]
 | 20 => [1, 2, 4, 8, 9, 11, 12, 13, 14, 15, 16, 61, 93]
 | 21 => [1, 2, 4, 8, 9, 11, 12, 13, 14, 15, 16, 61, 93]
 | 22 => [2, 4, 8, 12, 13]
 | 23 => [1, 2, 4, 8, 9, 11, 12, 13, 14, 15, 16, 61, 106]
 | 24 => [2, 4, 8, 12, 13]
 | 25 => [1, 2, 4, 8, 9, 11, 12, 13, 14, 15, 16, 61, 114]
 | 26 => [2, 4, 8, 12, 13]
 | 27 => [1, 2, 4, 8, 9, 11, 12, 13, 14, 15, 16, 61, 123]
 | 28 => [2, 4, 8, 12, 13]
 | 29 => [1, 2, 4, 8, 9, 11, 12, 13, 14, 15, 16, 61, 131]
 | 30 => [2, 4, 8, 12, 13]
 | 31 => [1, 2, 4, 8, 9, 11, 12, 13, 14, 15, 16, 61, 140]
 | 32 => [2, 4, 8, 12, 13]
 | 33 => [1, 2, 4, 8, 9, 11, 12, 13, 14, 15, 16, 61, 150]
 | 34 => [2, 4, 8, 12, 13]
 | 35 => [1, 2, 4, 8, 9, 11, 12, 13, 14, 15, 16, 61, 165]
 | 36 => [2, 4, 8, 12, 13]
 | 37 => [1, 2, 4, 8, 9, 11, 12, 13, 14, 15, 16, 61, 174]
 | 38 => [2, 4, 8, 12, 13]
 | 39 => [1, 2, 4, 8, 9, 11, 12, 13, 14, 15, 16, 61, 188]
 | 40 => [2, 4, 8, 12, 13]
 | 41 => [1, 2, 4, 8, 9, 11, 12, 13, 61, 196]
 | 42 => [2, 4, 8, 12, 13]
 | 43 => [2, 4, 8, 9, 11, 12, 13, 61, 215]
 | 44 => [2, 4, 8, 12, 13]
 | 45 => [2, 4, 8, 9, 11, 12, 13, 61, 224]
 | 46 => [2, 4, 8, 11, 12, 13, 229]
 | 47 => [2, 4, 8, 12, 13]
 | 48 => [2, 4, 8, 12, 13, 237]
 | 49 => [4, 5, 6]
 | 50 => [2, 4, 8, 12, 13, 241]
 | 51 => [4, 5, 6]
 | 52 => [4, 12]
 | 53 => [4, 5, 6]
 | _ => []
theorem z_ae (s0 : SpecM) (s1 s2 s3 s4 s5 s6 : SpecP) (s7 s8 : SpecM) (s9 : SpecP) (fr : AFr) (H : Hp) : acode tp (C s0 s1 s2 s3 s4 s5 s6 s7 s8 s9) (draws tp (C s0 s1 s2 s3 s4 s5 s6 s7 s8 s9)) K (co f123) fr H = body s0 s1 s2 s3 s4 s5 s6 s7 s8 s9 fr H := by kernel_rfl
theorem sound : Sound tp 123 (.ref [true, false] spec) := sayT ((((((((((Tab.Sound.none.add z_a1.sound).add z_ba.sound).add z_b8.sound).add z_dh.sound).add z_c1.sound).add z_cg.sound).add z_aq.sound).add z_av.sound).add z_a9.sound).add z_bo.sound) func123 (by kernel_rfl) (by kernel_rfl) (fun a w => call123 a w) (z_ae z_a1.spec z_ba.spec z_b8.spec z_dh.spec z_c1.spec z_cg.spec z_aq.spec z_av.spec z_a9.spec z_bo.spec) 2 (by decide +kernel) (g := res) (fun fr H => by kernel_rfl) fun args H r h => by
 unfold spec at h; split at h <;> first | exact ⟨rfl, h⟩ | cases h
end z_aw
end Go.Abs
end
