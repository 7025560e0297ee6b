/-
  The functions, as they are over abstract values. Printed by gen.py.
-/
import Derived.Test.YteohnepdbjmghaaZ4
import Derived.Test.YteohnepdbjmghaaZ7
import Derived.Test.YteohnepdbjmghaaZ5
import Derived.Test.YteohnepdbjmghaaZ6
import Derived.Test.YteohnepdbjmghaaZ3
import Derived.Test.YteohnepdbjmghaaProg
import Derived.KernelRfl
set_option linter.unusedSimpArgs false
set_option linter.unusedVariables false
set_option maxHeartbeats 20000000
set_option maxRecDepth 100000
section
namespace Go.Abs
noncomputable section
namespace z_bf
def C (s0 s1 : SpecM) : Tab := ((Tab.none.add 85 (.ref [true, false, true] s0)).add 86 (.ref [true, false] s1))
@[simp] def r0 (fr : AFr) (H : Hp) : ARes :=
 areg (o' (z_bo T.ty_api_Outcome (some (.agg [(.int .i64 0), (.int .i64 0), (.int .i64 0), .nils, .nils])) H) ⟨fun v8 H =>
 e' [(0, fr 0), (1, fr 1), (2, fr 2), (3, fr 3), (8, v8)] H⟩)
@[simp] def r1 (s0 : SpecM) (fr : AFr) (H : Hp) : ARes :=
 areg (q' (alenR .sl (fr 1)) H ⟨fun v20 H =>
 o' (callM [true, false, true] s0 [[some 1], [none], [some 1]] [(fr 0), v20, (fr 2)] H) ⟨fun v22 H =>
 q' (z_a3 (.str [(W32 0#32), (W32 0#32), (W32 0#32), (W32 0#32), (W32 0#32), (W32 0#32), (W32 0#32), (W32 0#32), (W32 0#32), (.bool false), (.bool false), (.bool false), (.bool false)] [(0, 8), (8, 1), (9, 1), (10, 1), (11, 1), (12, 1)]) []) H ⟨fun v23 H =>
 o' (z_bo T.ty_api_State (some (.agg [(W32 0#32), (W32 0#32), (W32 0#32), (W32 0#32), (W32 0#32), (W32 0#32), (W32 0#32), (W32 0#32), (W32 0#32), (.bool false), (.bool false), (.bool false), (.bool false)])) H) ⟨fun v10 H =>
 w' (z_ac (some 13) v10 v23 H) ⟨fun _ H =>
 e' [(1, fr 1), (3, fr 3), (8, fr 8), (9, v22), (10, v10)] H⟩⟩⟩⟩⟩)
@[simp] def r2 (fr : AFr) (H : Hp) : ARes :=
 areg (e' [(1, fr 1), (3, fr 3), (8, fr 8), (9, fr 9), (10, fr 10), (11, (.int .i64 0))] H)
@[simp] def r3 (fr : AFr) (H : Hp) : ARes :=
 areg (q' (anil (fr 9)) H ⟨fun v26 H =>
 q' (fa' 1 v26) H ⟨fun v27 H =>
 q' (ld' v27 H) H ⟨fun v28 H =>
 q' (alenR .sl v28) H ⟨fun v29 H =>
 q' (bn' .lss (fr 11) v29) H ⟨fun v30 H =>
 e' [(1, fr 1), (3, fr 3), (8, fr 8), (9, fr 9), (10, fr 10), (11, fr 11), (30, v30)] H⟩⟩⟩⟩⟩)
@[simp] def r5 (fr : AFr) (H : Hp) : ARes :=
 areg (q' (some (fr 9)) H ⟨fun v33 H1 =>
 q' (anil v33) H1 ⟨fun v34 H2 =>
 q' (fa' 1 v34) H2 ⟨fun v35 H3 =>
 q' (ld' v35 H3) H3 ⟨fun v36 H4 =>
 q' (some (fr 11)) H4 ⟨fun v37 H5 =>
 q' (some (fr 1)) H5 ⟨fun v38 H6 =>
 q' (some (fr 11)) H6 ⟨fun v39 H7 =>
 q' (z_aa (.sl 1) v38 v39) H7 ⟨fun v40 H8 =>
 q' (ld' v40 H8) H8 ⟨fun v41 H9 =>
 q' (z_aa (.sl 1) v36 v37) H9 ⟨fun v42 H10 =>
 w' (z_ac (some 1) v42 v41 H10) ⟨fun _ H11 =>
 e' [(1, fr 1), (3, fr 3), (8, fr 8), (9, fr 9), (10, fr 10), (11, fr 11)] H11⟩⟩⟩⟩⟩⟩⟩⟩⟩⟩⟩)
@[simp] def r4 (fr : AFr) (H : Hp) : ARes :=
 areg (q' (bn' .add (fr 11) (.int .i64 1)) H ⟨fun v32 H =>
 e' [(1, fr 1), (3, fr 3), (8, fr 8), (9, fr 9), (10, fr 10), (11, v32)] H⟩)
@[simp] def r6 (fr : AFr) (H : Hp) : ARes :=
 areg (q' (bn' .gtr (fr 3) (.int .i64 1048576)) H ⟨fun v44 H =>
 e' [(3, fr 3), (8, fr 8), (9, fr 9), (10, fr 10), (44, v44)] H⟩)
@[simp] def r7 (fr : AFr) (H : Hp) : ARes :=
 areg (e' [(3, (.int .i64 1048576)), (8, fr 8), (9, fr 9), (10, fr 10)] H)
@[simp] def r8 (fr : AFr) (H : Hp) : ARes :=
 areg (q' (z_a3 (.str [(.int .i64 0), (.int .i64 0), (.int .i64 0), .nils, .nils] [(0, 1), (1, 1), (2, 1), (3, 1), (4, 1)]) [(2, (.int .i64 80))]) H ⟨fun v45 H =>
 o' (z_bo T.ty_api_Outcome (some (.agg [(.int .i64 0), (.int .i64 0), (.int .i64 0), .nils, .nils])) H) ⟨fun v12 H =>
 w' (z_ac (some 5) v12 v45 H) ⟨fun _ H =>
 e' [(3, fr 3), (8, fr 8), (9, fr 9), (10, fr 10), (12, v12)] H⟩⟩⟩)
@[simp] def r9 (fr : AFr) (H : Hp) : ARes :=
 areg (e' [(3, fr 3), (8, fr 8), (9, fr 9), (10, fr 10), (12, fr 12), (13, (.bool true))] H)
@[simp] def r10 (fr : AFr) (H : Hp) : ARes :=
 areg (G' (fr 13) true ⟨fa' 0 (fr 12)⟩ H ⟨fun v48 H =>
 G' (fr 13) true ⟨ld' v48 H⟩ H ⟨fun v49 H =>
 G' (fr 13) true ⟨some (fr 3)⟩ H ⟨fun v50 H =>
 G' (fr 13) true ⟨bn' .lss v49 v50⟩ H ⟨fun v51 H =>
 q' (apick (fr 13) v51 (.bool false)) H ⟨fun v52 H =>
 e' [(3, fr 3), (8, fr 8), (9, fr 9), (10, fr 10), (12, fr 12), (13, fr 13), (52, v52)] H⟩⟩⟩⟩⟩)
@[simp] def r11 (s1 : SpecM) (fr : AFr) (H : Hp) : ARes :=
 areg (q' (Ld' 13 (fr 10) H) H ⟨fun v54 H =>
 o' (callM [true, false] s1 [[none, none, none, none, none, none, none, none, none, none, none, none, none], [none]] [v54, (fr 9)] H) ⟨fun v56 H =>
 q' (aextract v56 0) H ⟨fun v57 H =>
 q' (aextract v56 1) H ⟨fun v58 H =>
 q' (aextract v56 2) H ⟨fun v59 H =>
 q' (aextract v56 3) H ⟨fun v60 H =>
 o' (z_bo T.ty_api_State (some (.agg [(W32 0#32), (W32 0#32), (W32 0#32), (W32 0#32), (W32 0#32), (W32 0#32), (W32 0#32), (W32 0#32), (W32 0#32), (.bool false), (.bool false), (.bool false), (.bool false)])) H) ⟨fun v14 H =>
 o' (z_bo T.ty_api_Leak (some (.agg [(W32 0#32), (W16 0#16), (W32 0#32), (W32 0#32), (W32 0#32), (W32 0#32), (W32 0#32), (W32 0#32), (.bool false), (.bool false)])) H) ⟨fun v15 H =>
 w' (z_ac (some 13) v14 v57 H) ⟨fun _ H =>
 w' (z_ac (some 10) v15 v58 H) ⟨fun _ H =>
 e' [(3, fr 3), (8, fr 8), (9, fr 9), (10, fr 10), (12, fr 12), (13, fr 13), (14, v14), (15, v15), (16, v59), (17, v60)] H⟩⟩⟩⟩⟩⟩⟩⟩⟩⟩)
@[simp] def r12 (fr : AFr) (H : Hp) : ARes :=
 areg (q' (bn' .neq (fr 17) (.int .i64 0)) H ⟨fun v62 H =>
 e' [(3, fr 3), (8, fr 8), (9, fr 9), (10, fr 10), (12, fr 12), (13, fr 13), (14, fr 14), (15, fr 15), (16, fr 16), (17, fr 17), (62, v62)] H⟩)
@[simp] def r13 (fr : AFr) (H : Hp) : ARes :=
 areg (q' (fa' 2 (fr 12)) H ⟨fun v64 H =>
 w' (z_ac (some 1) v64 (fr 17) H) ⟨fun _ H =>
 e' [(3, fr 3), (8, fr 8), (9, fr 9), (10, fr 10), (12, fr 12), (13, (.bool false))] H⟩⟩)
@[simp] def r14 (fr : AFr) (H : Hp) : ARes :=
 areg (q' (Ld' 13 (fr 14) H) H ⟨fun v65 H1 =>
 q' (fa' 0 (fr 12)) H1 ⟨fun v66 H2 =>
 q' (ld' v66 H2) H2 ⟨fun v67 H3 =>
 q' (bn' .add v67 (.int .i64 1)) H3 ⟨fun v68 H4 =>
 q' (fa' 4 (fr 12)) H4 ⟨fun v69 H5 =>
 q' (ld' v69 H5) H5 ⟨fun v70 H6 =>
 q' (Ld' 10 (fr 15) H6) H6 ⟨fun v71 H7 =>
 o' (z_ae (some ⟨T.ty_api_Leak, 10, 36, [(W32 0#32), (W16 0#16), (W32 0#32), (W32 0#32), (W32 0#32), (W32 0#32), (W32 0#32), (W32 0#32), (.bool false), (.bool false)]⟩) 1 [(0, v71)] H7) ⟨fun v72 H8 =>
 o' (z_bt (some ⟨T.ty_api_Leak, 10, 36, [(W32 0#32), (W16 0#16), (W32 0#32), (W32 0#32), (W32 0#32), (W32 0#32), (W32 0#32), (W32 0#32), (.bool false), (.bool false)]⟩) v70 v72 H8) ⟨fun v73 H9 =>
 w' (z_ac (some 13) (fr 10) v65 H9) ⟨fun _ H10 =>
 q' (fa' 0 (fr 12)) H10 ⟨fun v74 H11 =>
 w' (z_ac (some 1) v74 v68 H11) ⟨fun _ H12 =>
 q' (fa' 4 (fr 12)) H12 ⟨fun v75 H13 =>
 w' (z_ac (some 1) v75 v73 H13) ⟨fun _ H14 =>
 z_bw [z_am (some (some 13)) (fr 14) H8 = z_am (some (some 13)) (fr 14) H9, z_am (some none) v66 H8 = z_am (some none) v66 H9, z_am (some none) v66 H9 = z_am (some none) v66 H10] (e' [(3, fr 3), (8, fr 8), (9, fr 9), (10, fr 10), (12, fr 12), (13, fr 13), (16, fr 16)] H14)⟩⟩⟩⟩⟩⟩⟩⟩⟩⟩⟩⟩⟩⟩)
@[simp] def r15 (fr : AFr) (H : Hp) : ARes :=
 areg (e' [(3, fr 3), (8, fr 8), (9, fr 9), (10, fr 10), (12, fr 12), (13, fr 13), (76, (fr 16))] H)
@[simp] def r16 (fr : AFr) (H : Hp) : ARes :=
 areg (q' (fa' 2 (fr 12)) H ⟨fun v77 H =>
 w' (z_ac (some 1) v77 (.int .i64 0) H) ⟨fun _ H =>
 e' [(3, fr 3), (8, fr 8), (9, fr 9), (10, fr 10), (12, fr 12), (13, (.bool false))] H⟩⟩)
@[simp] def r17 (fr : AFr) (H : Hp) : ARes :=
 areg (q' (some (fr 9)) H ⟨fun v78 H1 =>
 q' (anil v78) H1 ⟨fun v79 H2 =>
 q' (fa' 3 v79) H2 ⟨fun v80 H3 =>
 q' (ld' v80 H3) H3 ⟨fun v81 H4 =>
 o' (z_ae (some ⟨T.ty_uint32, 1, 4, [(W32 0#32)]⟩) 0 [] H4) ⟨fun v82 H5 =>
 q' (some (fr 9)) H5 ⟨fun v83 H6 =>
 q' (anil v83) H6 ⟨fun v84 H7 =>
 q' (fa' 1 v84) H7 ⟨fun v85 H8 =>
 q' (ld' v85 H8) H8 ⟨fun v86 H9 =>
 o' (z_bt (some ⟨T.ty_uint32, 1, 4, [(W32 0#32)]⟩) v82 v86 H9) ⟨fun v87 H10 =>
 q' (fa' 1 (fr 12)) H10 ⟨fun v88 H11 =>
 w' (z_ac (some 1) v88 v81 H11) ⟨fun _ H12 =>
 q' (fa' 3 (fr 12)) H12 ⟨fun v89 H13 =>
 w' (z_ac (some 1) v89 v87 H13) ⟨fun _ H14 =>
 z_bw [z_am (some none) v80 H9 = z_am (some none) v80 H10] (e' [(8, fr 8), (12, fr 12)] H14)⟩⟩⟩⟩⟩⟩⟩⟩⟩⟩⟩⟩⟩⟩)
@[simp] def r18 (fr : AFr) (H : Hp) : ARes :=
 areg (q' (Ld' 5 (fr 12) H) H ⟨fun v90 H =>
 w' (z_ac (some 5) (fr 8) v90 H) ⟨fun _ H =>
 e' [(8, fr 8)] H⟩⟩)
def l0 (s0 s1 : SpecM) (fr : AFr) (H : Hp) : ARes :=
 s' (s' (r3 fr H) ⟨fun fr H =>
 c' (fr 30)
 ⟨some (.normal, fr, H)⟩
 ⟨some (.exit 0, fr, H)⟩⟩) ⟨fun fr H =>
 s' (aexit 1 (r5 fr H)) ⟨fun fr H =>
 r4 fr H⟩⟩
def l1 (s0 s1 : SpecM) (fr : AFr) (H : Hp) : ARes :=
 s' (s' (r10 fr H) ⟨fun fr H =>
 c' (fr 52)
 ⟨some (.normal, fr, H)⟩
 ⟨some (.exit 2, fr, H)⟩⟩) ⟨fun fr H =>
 aexit 3 (s' (r11 s1 fr H) ⟨fun fr H =>
 s' (s' (r12 fr H) ⟨fun fr H =>
 c' (fr 62)
 ⟨s' (r13 fr H) ⟨fun fr H =>
 some (.exit 3, fr, H)⟩⟩
 ⟨some (.normal, fr, H)⟩⟩) ⟨fun fr H =>
 s' (r14 fr H) ⟨fun fr H =>
 s' (r15 fr H) ⟨fun fr H =>
 c' (fr 76)
 ⟨r16 fr H⟩
 ⟨some (.normal, fr, H)⟩⟩⟩⟩⟩)⟩
@[simp] def body (s0 s1 : SpecM) (fr : AFr) (H : Hp) : ARes :=
 s' (r0 fr H) ⟨fun fr H =>
 s' (r1 s0 fr H) ⟨fun fr H =>
 s' (s' (r2 fr H) ⟨fun fr H =>
 aexit 0 (aloop (l0 s0 s1) fr H)⟩) ⟨fun fr H =>
 s' (s' (r6 fr H) ⟨fun fr H =>
 c' (fr 44)
 ⟨r7 fr H⟩
 ⟨some (.normal, fr, H)⟩⟩) ⟨fun fr H =>
 s' (r8 fr H) ⟨fun fr H =>
 s' (s' (r9 fr H) ⟨fun fr H =>
 aexit 2 (aloop (l1 s0 s1) fr H)⟩) ⟨fun fr H =>
 s' (r17 fr H) ⟨fun fr H =>
 s' (r18 fr H) ⟨fun fr H =>
 some (.ret, fr, H)⟩⟩⟩⟩⟩⟩⟩⟩
@[simp] def res (fr : AFr) (H : Hp) : Option (List AV) := res2 (z_am (some (some 5)) (fr 8) H) (some [])
end z_bf
def z_bf (a0 a1 a2 a3 : AV) : Option AV := z_ap (some [[none, none, none, some 1, some 10]]) (afinR z_bf.res (z_bf.body z_b1.spec z_by.spec (args0 [a0, a1, a2, a3]) Hp.empty))
def z_bf.spec : List AV → Option AV
 | [a0, a1, a2, a3] => z_bf a0 a1 a2 a3
 | _ => none
namespace z_ce
def C (s0 : SpecP) : Tab := (Tab.none.add 89 (.pure false s0))
@[simp] def r0 (fr : AFr) (H : Hp) : ARes :=
 areg (e' [(0, fr 0), (1, fr 1)] H)
@[simp] def r1 (fr : AFr) (H : Hp) : ARes :=
 areg (q' (alenR .sl (fr 0)) H ⟨fun v7 H =>
 q' (alenR .sl (fr 1)) H ⟨fun v9 H =>
 q' (bn' .neq v7 v9) H ⟨fun v10 H =>
 e' [(0, fr 0), (1, fr 1), (10, v10)] H⟩⟩⟩)
@[simp] def r2 (fr : AFr) (H : Hp) : ARes :=
 areg (e' [(4, (.bool false))] H)
@[simp] def r3 (fr : AFr) (H : Hp) : ARes :=
 areg (e' [(0, fr 0), (1, fr 1), (5, (.int .i64 0))] H)
@[simp] def r4 (fr : AFr) (H : Hp) : ARes :=
 areg (q' (alenR .sl (fr 0)) H ⟨fun v13 H =>
 q' (bn' .lss (fr 5) v13) H ⟨fun v14 H =>
 e' [(0, fr 0), (1, fr 1), (5, fr 5), (14, v14)] H⟩⟩)
@[simp] def r6 (s0 : SpecP) (fr : AFr) (H : Hp) : ARes :=
 areg (q' (some (fr 0)) H ⟨fun v17 H1 =>
 q' (some (fr 5)) H1 ⟨fun v18 H2 =>
 q' (z_aa (.sl 10) v17 v18) H2 ⟨fun v19 H3 =>
 q' (Ld' 10 v19 H3) H3 ⟨fun v20 H4 =>
 q' (some (fr 1)) H4 ⟨fun v21 H5 =>
 q' (some (fr 5)) H5 ⟨fun v22 H6 =>
 q' (z_aa (.sl 10) v21 v22) H6 ⟨fun v23 H7 =>
 q' (Ld' 10 v23 H7) H7 ⟨fun v24 H8 =>
 o' (callP false s0 [[none, none, none, none, none, none, none, none, none, none], [none, none, none, none, none, none, none, none, none, none]] [v20, v24] H8) ⟨fun v25 H9 =>
 q' (aun .not v25) H9 ⟨fun v26 H10 =>
 e' [(0, fr 0), (1, fr 1), (5, fr 5), (26, v26)] H10⟩⟩⟩⟩⟩⟩⟩⟩⟩⟩)
@[simp] def r7 (fr : AFr) (H : Hp) : ARes :=
 areg (e' [(4, (.bool false))] H)
@[simp] def r5 (fr : AFr) (H : Hp) : ARes :=
 areg (q' (bn' .add (fr 5) (.int .i64 1)) H ⟨fun v16 H =>
 e' [(0, fr 0), (1, fr 1), (5, v16)] H⟩)
@[simp] def r8 (fr : AFr) (H : Hp) : ARes :=
 areg (e' [(4, (.bool true))] H)
def l0 (s0 : SpecP) (fr : AFr) (H : Hp) : ARes :=
 s' (s' (r4 fr H) ⟨fun fr H =>
 c' (fr 14)
 ⟨some (.normal, fr, H)⟩
 ⟨some (.exit 0, fr, H)⟩⟩) ⟨fun fr H =>
 s' (aexit 1 (s' (r6 s0 fr H) ⟨fun fr H =>
 c' (fr 26)
 ⟨s' (r7 fr H) ⟨fun fr H =>
 some (.ret, fr, H)⟩⟩
 ⟨some (.normal, fr, H)⟩⟩)) ⟨fun fr H =>
 r5 fr H⟩⟩
@[simp] def body (s0 : SpecP) (fr : AFr) (H : Hp) : ARes :=
 s' (r0 fr H) ⟨fun fr H =>
 s' (s' (r1 fr H) ⟨fun fr H =>
 c' (fr 10)
 ⟨s' (r2 fr H) ⟨fun fr H =>
 some (.ret, fr, H)⟩⟩
 ⟨some (.normal, fr, H)⟩⟩) ⟨fun fr H =>
 s' (s' (r3 fr H) ⟨fun fr H =>
 aexit 0 (aloop (l0 s0) fr H)⟩) ⟨fun fr H =>
 s' (r8 fr H) ⟨fun fr H =>
 some (.ret, fr, H)⟩⟩⟩⟩
@[simp] def res (fr : AFr) (H : Hp) : Option (List AV) := res2 (some (fr 4)) (some [])
end z_ce
def z_ce (a0 a1 : AV) : Option AV := z_ap (some [[none]]) (afinR z_ce.res (z_ce.body z_cg.spec (args0 [a0, a1]) Hp.empty))
def z_ce.spec : List AV → Option AV
 | [a0, a1] => z_ce a0 a1
 | _ => none
namespace z_ba
def C (s0 : SpecP) : Tab := (Tab.none.add 83 (.pure false s0))
@[simp] def r0 (fr : AFr) (H : Hp) : ARes :=
 areg (e' [(0, fr 0)] H)
@[simp] def r1 (fr : AFr) (H : Hp) : ARes :=
 areg (e' [(0, fr 0), (3, (.int .i64 0))] H)
@[simp] def r2 (fr : AFr) (H : Hp) : ARes :=
 areg (e' [(0, fr 0), (3, fr 3), (4, (.int .i64 0))] H)
@[simp] def r3 (fr : AFr) (H : Hp) : ARes :=
 areg (q' (alenR .sl (fr 0)) H ⟨fun v9 H =>
 q' (bn' .lss (fr 4) v9) H ⟨fun v10 H =>
 e' [(0, fr 0), (3, fr 3), (4, fr 4), (10, v10)] H⟩⟩)
@[simp] def r5 (s0 : SpecP) (fr : AFr) (H : Hp) : ARes :=
 areg (q' (z_aa (.sl 10) (fr 0) (fr 4)) H ⟨fun v16 H =>
 q' (fa' 1 v16) H ⟨fun v17 H =>
 q' (ld' v17 H) H ⟨fun v18 H =>
 o' (callP false s0 [[none]] [v18] H) ⟨fun v19 H =>
 q' (aextract v19 0) H ⟨fun v20 H =>
 q' (aextract v19 1) H ⟨fun v21 H =>
 o' (z_bo T.ty_api_Ins (some (.agg [(.int .i64 0), (.int .i64 0), (.int .i64 0), (.int .i64 0), (.int .i64 0)])) H) ⟨fun v5 H =>
 w' (z_ac (some 5) v5 v20 H) ⟨fun _ H =>
 e' [(0, fr 0), (3, fr 3), (4, fr 4), (5, v5)] H⟩⟩⟩⟩⟩⟩⟩⟩)
@[simp] def r6 (fr : AFr) (H : Hp) : ARes :=
 areg (q' (bn' .add (fr 3) (.int .i64 1)) H ⟨fun v23 H =>
 e' [(0, fr 0), (3, v23), (4, fr 4), (5, fr 5)] H⟩)
@[simp] def r7 (fr : AFr) (H : Hp) : ARes :=
 areg (q' (z_aa (.sl 10) (fr 0) (fr 4)) H ⟨fun v26 H =>
 q' (fa' 8 v26) H ⟨fun v27 H =>
 q' (ld' v27 H) H ⟨fun v28 H =>
 e' [(0, fr 0), (3, fr 3), (4, fr 4), (5, fr 5), (28, v28)] H⟩⟩⟩)
@[simp] def r8 (fr : AFr) (H : Hp) : ARes :=
 areg (q' (bn' .add (fr 3) (.int .i64 1)) H ⟨fun v30 H =>
 e' [(0, fr 0), (3, v30), (4, fr 4)] H⟩)
@[simp] def r9 (fr : AFr) (H : Hp) : ARes :=
 areg (q' (fa' 0 (fr 5)) H ⟨fun v31 H1 =>
 q' (ld' v31 H1) H1 ⟨fun v32 H2 =>
 q' (bn' .eql v32 (.int .i64 17)) H2 ⟨fun v33 H3 =>
 q' (some v33) H3 ⟨fun v34 H4 =>
 G' v34 false ⟨fa' 0 (fr 5)⟩ H4 ⟨fun v35 H5 =>
 G' v34 false ⟨ld' v35 H5⟩ H5 ⟨fun v36 H6 =>
 G' v34 false ⟨bn' .eql v36 (.int .i64 18)⟩ H6 ⟨fun v37 H7 =>
 q' (apick v34 (.bool true) v37) H7 ⟨fun v38 H8 =>
 q' (some v38) H8 ⟨fun v39 H9 =>
 G' v39 true ⟨some (fr 4)⟩ H9 ⟨fun v40 H10 =>
 G' v39 true ⟨bn' .add v40 (.int .i64 1)⟩ H10 ⟨fun v41 H11 =>
 G' v39 true ⟨some (fr 0)⟩ H11 ⟨fun v42 H12 =>
 G' v39 true ⟨alenR .sl v42⟩ H12 ⟨fun v43 H13 =>
 G' v39 true ⟨bn' .lss v41 v43⟩ H13 ⟨fun v44 H14 =>
 q' (apick v39 v44 (.bool false)) H14 ⟨fun v45 H15 =>
 q' (some v45) H15 ⟨fun v46 H16 =>
 G' v46 true ⟨some (fr 0)⟩ H16 ⟨fun v47 H17 =>
 G' v46 true ⟨some (fr 4)⟩ H17 ⟨fun v48 H18 =>
 G' v46 true ⟨bn' .add v48 (.int .i64 1)⟩ H18 ⟨fun v49 H19 =>
 G' v46 true ⟨z_aa (.sl 10) v47 v49⟩ H19 ⟨fun v50 H20 =>
 G' v46 true ⟨fa' 0 v50⟩ H20 ⟨fun v51 H21 =>
 G' v46 true ⟨ld' v51 H21⟩ H21 ⟨fun v52 H22 =>
 G' v46 true ⟨some (fr 0)⟩ H22 ⟨fun v53 H23 =>
 G' v46 true ⟨some (fr 4)⟩ H23 ⟨fun v54 H24 =>
 G' v46 true ⟨z_aa (.sl 10) v53 v54⟩ H24 ⟨fun v55 H25 =>
 G' v46 true ⟨fa' 0 v55⟩ H25 ⟨fun v56 H26 =>
 G' v46 true ⟨ld' v56 H26⟩ H26 ⟨fun v57 H27 =>
 G' v46 true ⟨bn' .add v57 (W32 2#32)⟩ H27 ⟨fun v58 H28 =>
 G' v46 true ⟨bn' .neq v52 v58⟩ H28 ⟨fun v59 H29 =>
 q' (apick v46 v59 (.bool false)) H29 ⟨fun v60 H30 =>
 e' [(0, fr 0), (3, fr 3), (4, fr 4), (60, v60)] H30⟩⟩⟩⟩⟩⟩⟩⟩⟩⟩⟩⟩⟩⟩⟩⟩⟩⟩⟩⟩⟩⟩⟩⟩⟩⟩⟩⟩⟩⟩)
@[simp] def r10 (fr : AFr) (H : Hp) : ARes :=
 areg (q' (bn' .add (fr 3) (.int .i64 2)) H ⟨fun v62 H =>
 e' [(0, fr 0), (3, v62), (4, fr 4)] H⟩)
@[simp] def r4 (fr : AFr) (H : Hp) : ARes :=
 areg (q' (bn' .add (fr 4) (.int .i64 1)) H ⟨fun v12 H =>
 e' [(0, fr 0), (3, fr 3), (4, v12)] H⟩)
@[simp] def r11 (fr : AFr) (H : Hp) : ARes :=
 areg (e' [(2, (fr 3))] H)
def l0 (s0 : SpecP) (fr : AFr) (H : Hp) : ARes :=
 s' (s' (r3 fr H) ⟨fun fr H =>
 c' (fr 10)
 ⟨some (.normal, fr, H)⟩
 ⟨some (.exit 0, fr, H)⟩⟩) ⟨fun fr H =>
 s' (aexit 1 (s' (r5 s0 fr H) ⟨fun fr H =>
 s' (r6 fr H) ⟨fun fr H =>
 s' (r7 fr H) ⟨fun fr H =>
 c' (fr 28)
 ⟨r8 fr H⟩
 ⟨s' (r9 fr H) ⟨fun fr H =>
 c' (fr 60)
 ⟨r10 fr H⟩
 ⟨some (.normal, fr, H)⟩⟩⟩⟩⟩⟩)) ⟨fun fr H =>
 r4 fr H⟩⟩
@[simp] def body (s0 : SpecP) (fr : AFr) (H : Hp) : ARes :=
 s' (r0 fr H) ⟨fun fr H =>
 s' (r1 fr H) ⟨fun fr H =>
 s' (s' (r2 fr H) ⟨fun fr H =>
 aexit 0 (aloop (l0 s0) fr H)⟩) ⟨fun fr H =>
 s' (r11 fr H) ⟨fun fr H =>
 some (.ret, fr, H)⟩⟩⟩⟩
@[simp] def res (fr : AFr) (H : Hp) : Option (List AV) := res2 (some (fr 2)) (some [])
end z_ba
def z_ba (a0 : AV) : Option AV := z_ap (some [[none]]) (afinR z_ba.res (z_ba.body z_az.spec (args0 [a0]) Hp.empty))
def z_ba.spec : List AV → Option AV
 | [a0] => z_ba a0
 | _ => none
end
end Go.Abs
end
section
namespace Go.Abs
noncomputable section
namespace z_c1
def C (s0 s1 : SpecP) : Tab := ((Tab.none.add 22 (.pure false s0)).add 25 (.pure false s1))
@[simp] def r0 (fr : AFr) (H : Hp) : ARes :=
 areg (e' [] H)
@[simp] def r1 (s0 s1 : SpecP) (fr : AFr) (H : Hp) : ARes :=
 areg (q' (z_a3 (.str [(.int .i64 0), (.int .i64 0), (.int .i64 0), (W32 0#32)] [(0, 1), (1, 1), (2, 1), (3, 1)]) [(0, (.int .i64 3))]) H ⟨fun v1 H =>
 o' (z_ae (some ⟨T.ty_int, 1, 8, [(.int .i64 0)]⟩) 1 [(0, (.int .i64 0))] H) ⟨fun v2 H =>
 o' (callP false s0 [[none, none, none, none], [none], [some 1]] [v1, (.int .i64 1), v2] H) ⟨fun v3 H =>
 o' (z_ae (some ⟨T.ty_string, 1, 16, [(.str (bs []))]⟩) 6 [(0, (.str (bs [109, 111, 118, 115, 32, 114, 48, 44, 32, 35, 48]))), (1, (.str (bs [109, 111, 118, 115, 32, 114, 54, 44, 32, 35, 48]))), (2, (.str (bs [108, 100, 114, 32, 114, 48, 44, 32, 91, 114, 55, 44, 32, 114, 54, 93]))), (3, (.str (bs [109, 118, 110, 115, 32, 114, 48, 44, 32, 114, 48]))), (4, (.str (bs [109, 111, 118, 115, 32, 114, 54, 44, 32, 35, 52]))), (5, (.str (bs [115, 116, 114, 32, 114, 48, 44, 32, 91, 114, 55, 44, 32, 114, 54, 93])))] H) ⟨fun v4 H =>
 o' (callP false s1 [[some 5], [some 1]] [v3, v4] H) ⟨fun v5 H =>
 e' [(0, v5)] H⟩⟩⟩⟩⟩)
@[simp] def body (s0 s1 : SpecP) (fr : AFr) (H : Hp) : ARes :=
 s' (r0 fr H) ⟨fun fr H =>
 s' (r1 s0 s1 fr H) ⟨fun fr H =>
 some (.ret, fr, H)⟩⟩
@[simp] def res (fr : AFr) (H : Hp) : Option (List AV) := res2 (some (fr 0)) (some [])
end z_c1
def z_c1 : Option AV := z_ap (some [[none]]) (afinR z_c1.res (z_c1.body z_cy.spec z_cv.spec (args0 []) Hp.empty))
def z_c1.spec : List AV → Option AV
 | [] => z_c1
 | _ => none
namespace z_c6
def C : Tab := Tab.none
@[simp] def r0 (fr : AFr) (H : Hp) : ARes :=
 areg (o' (abox T.ty_api_Code (fr 0) H) ⟨fun v1 H =>
 e' [(1, v1)] H⟩)
@[simp] def r1 (fr : AFr) (H : Hp) : ARes :=
 areg (q' (fa' 1 (fr 1)) H ⟨fun v3 H =>
 q' (ld' v3 H) H ⟨fun v4 H =>
 q' (alenR .sl v4) H ⟨fun v5 H =>
 q' (bn' .leq v5 (.int .i64 120)) H ⟨fun v6 H =>
 G' v6 true ⟨fa' 2 (fr 1)⟩ H ⟨fun v8 H =>
 G' v6 true ⟨ld' v8 H⟩ H ⟨fun v9 H =>
 G' v6 true ⟨alenR .sl v9⟩ H ⟨fun v10 H =>
 G' v6 true ⟨bn' .leq v10 (.int .i64 100)⟩ H ⟨fun v11 H =>
 q' (apick v6 v11 (.bool false)) H ⟨fun v12 H =>
 G' v12 true ⟨fa' 0 (fr 1)⟩ H ⟨fun v14 H =>
 G' v12 true ⟨ld' v14 H⟩ H ⟨fun v15 H =>
 G' v12 true ⟨bn' .leq v15 (.int .i64 200)⟩ H ⟨fun v16 H =>
 q' (apick v12 v16 (.bool false)) H ⟨fun v17 H =>
 e' [(2, v17)] H⟩⟩⟩⟩⟩⟩⟩⟩⟩⟩⟩⟩⟩)
@[simp] def body (fr : AFr) (H : Hp) : ARes :=
 s' (r0 fr H) ⟨fun fr H =>
 s' (r1 fr H) ⟨fun fr H =>
 some (.ret, fr, H)⟩⟩
@[simp] def res (fr : AFr) (H : Hp) : Option (List AV) := res2 (some (fr 2)) (some [])
end z_c6
def z_c6 (a0 : AV) : Option AV := z_ap (some [[none]]) (afinR z_c6.res (z_c6.body (args0 [a0]) Hp.empty))
def z_c6.spec : List AV → Option AV
 | [a0] => z_c6 a0
 | _ => none
namespace z_dj
def C (s0 s1 s2 : SpecP) : Tab := (((Tab.none.add 84 (.pure false s0)).add 33 (.pure false s1)).add 32 (.pure false s2))
@[simp] def r0 (fr : AFr) (H : Hp) : ARes :=
 areg (o' (abox T.ty_api_Code (fr 0) H) ⟨fun v1 H =>
 e' [(1, v1)] H⟩)
@[simp] def r1 (s0 : SpecP) (fr : AFr) (H : Hp) : ARes :=
 areg (q' (Ld' 3 (fr 1) H) H ⟨fun v11 H =>
 o' (callP false s0 [[none, some 4, some 1]] [v11] H) ⟨fun v12 H =>
 q' (aextract v12 0) H ⟨fun v13 H =>
 q' (aextract v12 1) H ⟨fun v14 H =>
 q' (aextract v12 2) H ⟨fun v15 H =>
 e' [(1, fr 1), (5, v13), (6, v14), (7, v15)] H⟩⟩⟩⟩⟩)
@[simp] def r2 (fr : AFr) (H : Hp) : ARes :=
 areg (q' (bn' .neq (fr 7) (.int .i64 0)) H ⟨fun v17 H =>
 e' [(1, fr 1), (5, fr 5), (6, fr 6), (17, v17)] H⟩)
@[simp] def r3 (fr : AFr) (H : Hp) : ARes :=
 areg (e' [(2, .nils), (3, (.int .i64 0)), (4, (.bool false))] H)
@[simp] def r4 (s1 s2 : SpecP) (fr : AFr) (H : Hp) : ARes :=
 areg (q' (Ld' 3 (fr 1) H) H ⟨fun v19 H =>
 o' (callP false s1 [[none, some 4, some 1]] [v19] H) ⟨fun v20 H =>
 o' (z_ae (some ⟨T.ty_int, 1, 8, [(.int .i64 0)]⟩) 0 [] H) ⟨fun v21 H =>
 o' (z_bt (some ⟨T.ty_int, 1, 8, [(.int .i64 0)]⟩) v21 (fr 5) H) ⟨fun v23 H =>
 o' (callP false s2 [[none, some 4, some 1], [some 1]] [v20, v23] H) ⟨fun v24 H =>
 q' (aextract v24 0) H ⟨fun v25 H =>
 q' (aextract v24 1) H ⟨fun v26 H =>
 e' [(6, fr 6), (8, v25), (9, v26)] H⟩⟩⟩⟩⟩⟩⟩)
@[simp] def r5 (fr : AFr) (H : Hp) : ARes :=
 areg (q' (bn' .eql (fr 9) (.int .i64 0)) H ⟨fun v30 H =>
 e' [(2, (fr 8)), (3, (fr 6)), (4, v30)] H⟩)
@[simp] def body (s0 s1 s2 : SpecP) (fr : AFr) (H : Hp) : ARes :=
 s' (r0 fr H) ⟨fun fr H =>
 s' (r1 s0 fr H) ⟨fun fr H =>
 s' (s' (r2 fr H) ⟨fun fr H =>
 c' (fr 17)
 ⟨s' (r3 fr H) ⟨fun fr H =>
 some (.ret, fr, H)⟩⟩
 ⟨some (.normal, fr, H)⟩⟩) ⟨fun fr H =>
 s' (r4 s1 s2 fr H) ⟨fun fr H =>
 s' (r5 fr H) ⟨fun fr H =>
 some (.ret, fr, H)⟩⟩⟩⟩⟩
@[simp] def res (fr : AFr) (H : Hp) : Option (List AV) := res2 (some (fr 2)) (res2 (some (fr 3)) (res2 (some (fr 4)) (some [])))
end z_dj
def z_dj (a0 : AV) : Option AV := z_ap (some [[some 1], [none], [none]]) (afinR z_dj.res (z_dj.body z_bh.spec z_ds.spec z_cd.spec (args0 [a0]) Hp.empty))
def z_dj.spec : List AV → Option AV
 | [a0] => z_dj a0
 | _ => none
namespace z_cx
def C : Tab := Tab.none
@[simp] def r0 (fr : AFr) (H : Hp) : ARes :=
 areg (e' [(0, fr 0), (1, fr 1)] H)
@[simp] def r1 (fr : AFr) (H : Hp) : ARes :=
 areg (o' (z_ae (some ⟨T.ty_uint32, 1, 4, [(W32 0#32)]⟩) 0 [] H) ⟨fun v8 H =>
 e' [(0, fr 0), (1, fr 1), (5, v8)] H⟩)
@[simp] def r2 (fr : AFr) (H : Hp) : ARes :=
 areg (e' [(0, fr 0), (1, fr 1), (5, fr 5), (6, (.int .i64 0))] H)
@[simp] def r3 (fr : AFr) (H : Hp) : ARes :=
 areg (q' (bn' .lss (fr 6) (fr 1)) H ⟨fun v11 H =>
 e' [(0, fr 0), (1, fr 1), (5, fr 5), (6, fr 6), (11, v11)] H⟩)
@[simp] def r5 (fr : AFr) (H : Hp) : ARes :=
 areg (q' (z_du (some .u32) (fr 6)) H ⟨fun v15 H =>
 q' (bn' .mul v15 (W32 2654435761#32)) H ⟨fun v16 H =>
 e' [(0, fr 0), (1, fr 1), (5, fr 5), (6, fr 6), (7, v16)] H⟩⟩)
@[simp] def r6 (fr : AFr) (H : Hp) : ARes :=
 areg (q' (alenR .sl (fr 0)) H ⟨fun v18 H =>
 q' (bn' .gtr v18 (.int .i64 0)) H ⟨fun v19 H =>
 e' [(0, fr 0), (1, fr 1), (5, fr 5), (6, fr 6), (7, fr 7), (19, v19)] H⟩⟩)
@[simp] def r7 (fr : AFr) (H : Hp) : ARes :=
 areg (q' (alenR .sl (fr 0)) H ⟨fun v24 H =>
 q' (bn' .rem (fr 6) v24) H ⟨fun v25 H =>
 q' (z_aa (.sl 1) (fr 0) v25) H ⟨fun v26 H =>
 q' (ld' v26 H) H ⟨fun v27 H =>
 q' (bn' .xor (fr 7) v27) H ⟨fun v28 H =>
 e' [(0, fr 0), (1, fr 1), (5, fr 5), (6, fr 6), (7, v28)] H⟩⟩⟩⟩⟩)
@[simp] def r8 (fr : AFr) (H : Hp) : ARes :=
 areg (o' (z_ae (some ⟨T.ty_uint32, 1, 4, [(W32 0#32)]⟩) 1 [(0, (fr 7))] H) ⟨fun v31 H =>
 o' (z_bt (some ⟨T.ty_uint32, 1, 4, [(W32 0#32)]⟩) (fr 5) v31 H) ⟨fun v32 H =>
 e' [(0, fr 0), (1, fr 1), (5, v32), (6, fr 6)] H⟩⟩)
@[simp] def r4 (fr : AFr) (H : Hp) : ARes :=
 areg (q' (bn' .add (fr 6) (.int .i64 1)) H ⟨fun v13 H =>
 e' [(0, fr 0), (1, fr 1), (5, fr 5), (6, v13)] H⟩)
@[simp] def r9 (fr : AFr) (H : Hp) : ARes :=
 areg (e' [(4, (fr 5))] H)
def l0 (fr : AFr) (H : Hp) : ARes :=
 s' (s' (r3 fr H) ⟨fun fr H =>
 c' (fr 11)
 ⟨some (.normal, fr, H)⟩
 ⟨some (.exit 0, fr, H)⟩⟩) ⟨fun fr H =>
 s' (aexit 1 (s' (r5 fr H) ⟨fun fr H =>
 s' (s' (r6 fr H) ⟨fun fr H =>
 c' (fr 19)
 ⟨r7 fr H⟩
 ⟨some (.normal, fr, H)⟩⟩) ⟨fun fr H =>
 r8 fr H⟩⟩)) ⟨fun fr H =>
 r4 fr H⟩⟩
@[simp] def body (fr : AFr) (H : Hp) : ARes :=
 s' (r0 fr H) ⟨fun fr H =>
 s' (r1 fr H) ⟨fun fr H =>
 s' (s' (r2 fr H) ⟨fun fr H =>
 aexit 0 (aloop (l0) fr H)⟩) ⟨fun fr H =>
 s' (r9 fr H) ⟨fun fr H =>
 some (.ret, fr, H)⟩⟩⟩⟩
@[simp] def res (fr : AFr) (H : Hp) : Option (List AV) := res2 (some (fr 4)) (some [])
end z_cx
def z_cx (a0 a1 : AV) : Option AV := z_ap (some [[some 1]]) (afinR z_cx.res (z_cx.body (args0 [a0, a1]) Hp.empty))
def z_cx.spec : List AV → Option AV
 | [a0, a1] => z_cx a0 a1
 | _ => none
namespace law25_EmitRoads
def C (s0 s1 s2 s3 s4 s5 s6 s7 s8 : SpecP) : Tab := (((((((((Tab.none.add 31 (.pure false s0)).add 36 (.pure false s1)).add 24 (.pure false s2)).add 37 (.pure false s3)).add 38 (.pure false s4)).add 39 (.pure false s5)).add 40 (.pure false s6)).add 42 (.pure false s7)).add 43 (.pure false s8))
@[simp] def r0 (fr : AFr) (H : Hp) : ARes :=
 areg (o' (abox T.ty_api_Code (fr 0) H) ⟨fun v3 H =>
 o' (abox T.ty_2_sl_uint32 (fr 1) H) ⟨fun v4 H =>
 o' (abox T.ty_2_sl_uint32 (fr 2) H) ⟨fun v5 H =>
 e' [(3, v3), (4, v4), (5, v5)] H⟩⟩⟩)
@[simp] def r1 (s0 s1 : SpecP) (fr : AFr) (H : Hp) : ARes :=
 areg (q' (Ld' 3 (fr 3) H) H ⟨fun v12 H =>
 o' (callP false s0 [[none, some 4, some 1]] [v12] H) ⟨fun v13 H =>
 q' (aun .not v13) H ⟨fun v14 H =>
 G' v14 false ⟨Ld' 3 (fr 3) H⟩ H ⟨fun v16 H =>
 o' (g' (gw v14 false) ⟨callP false s1 [[none, some 4, some 1]] [v16] H⟩ H) ⟨fun v17 H =>
 G' v14 false ⟨aun .not v17⟩ H ⟨fun v18 H =>
 q' (apick v14 (.bool true) v18) H ⟨fun v19 H =>
 e' [(3, fr 3), (4, fr 4), (5, fr 5), (19, v19)] H⟩⟩⟩⟩⟩⟩⟩)
@[simp] def r2 (s2 : SpecP) (fr : AFr) (H : Hp) : ARes :=
 areg (o' (callP false s2 [] [] H) ⟨fun v20 H =>
 e' [(6, v20)] H⟩)
@[simp] def r3 (s3 : SpecP) (fr : AFr) (H : Hp) : ARes :=
 areg (q' (Ld' 3 (fr 3) H) H ⟨fun v22 H =>
 o' (callP false s3 [[none, some 4, some 1]] [v22] H) ⟨fun v23 H =>
 q' (aextract v23 0) H ⟨fun v24 H =>
 q' (aextract v23 1) H ⟨fun v25 H =>
 q' (aextract v23 2) H ⟨fun v26 H =>
 e' [(3, fr 3), (4, fr 4), (5, fr 5), (7, v24), (8, v25), (9, v26)] H⟩⟩⟩⟩⟩)
@[simp] def r4 (fr : AFr) (H : Hp) : ARes :=
 areg (q' (aun .not (fr 9)) H ⟨fun v28 H =>
 e' [(3, fr 3), (4, fr 4), (5, fr 5), (7, fr 7), (8, fr 8), (28, v28)] H⟩)
@[simp] def r5 (fr : AFr) (H : Hp) : ARes :=
 areg (e' [(6, (.bool false))] H)
@[simp] def r6 (s4 s5 s6 : SpecP) (fr : AFr) (H : Hp) : ARes :=
 areg (q' (some (fr 7)) H ⟨fun v29 H1 =>
 q' (z_aa (.arr 2 1) (fr 4) (.int .i64 0)) H1 ⟨fun v30 H2 =>
 q' (ld' v30 H2) H2 ⟨fun v31 H3 =>
 q' (some (fr 8)) H3 ⟨fun v32 H4 =>
 o' (callP false s4 [[some 1], [none]] [v31, v32] H4) ⟨fun v33 H5 =>
 q' (z_aa (.arr 2 1) (fr 5) (.int .i64 0)) H5 ⟨fun v34 H6 =>
 q' (ld' v34 H6) H6 ⟨fun v35 H7 =>
 q' (Ld' 3 (fr 3) H7) H7 ⟨fun v36 H8 =>
 o' (callP false s5 [[none, some 4, some 1]] [v36] H8) ⟨fun v37 H9 =>
 o' (callP false s4 [[some 1], [none]] [v35, v37] H9) ⟨fun v38 H10 =>
 o' (callP false s6 [[some 1], [some 1], [some 1], [none]] [v29, v33, v38, (.int .i64 60000)] H10) ⟨fun v39 H11 =>
 o' (z_bo T.ty_api_Outcome (some (.agg [(.int .i64 0), (.int .i64 0), (.int .i64 0), .nils, .nils])) H11) ⟨fun v10 H12 =>
 w' (z_ac (some 5) v10 v39 H12) ⟨fun _ H13 =>
 z_bw [z_am (some none) v34 H4 = z_am (some none) v34 H5, z_am (some none) v34 H8 = z_am (some none) v34 H9, z_am (some (some 3)) (fr 3) H4 = z_am (some (some 3)) (fr 3) H5] (e' [(3, fr 3), (4, fr 4), (5, fr 5), (7, fr 7), (8, fr 8), (10, v10)] H13)⟩⟩⟩⟩⟩⟩⟩⟩⟩⟩⟩⟩⟩)
@[simp] def r7 (s4 s5 s6 : SpecP) (fr : AFr) (H : Hp) : ARes :=
 areg (q' (some (fr 7)) H ⟨fun v40 H1 =>
 q' (z_aa (.arr 2 1) (fr 4) (.int .i64 1)) H1 ⟨fun v41 H2 =>
 q' (ld' v41 H2) H2 ⟨fun v42 H3 =>
 q' (some (fr 8)) H3 ⟨fun v43 H4 =>
 o' (callP false s4 [[some 1], [none]] [v42, v43] H4) ⟨fun v44 H5 =>
 q' (z_aa (.arr 2 1) (fr 5) (.int .i64 1)) H5 ⟨fun v45 H6 =>
 q' (ld' v45 H6) H6 ⟨fun v46 H7 =>
 q' (Ld' 3 (fr 3) H7) H7 ⟨fun v47 H8 =>
 o' (callP false s5 [[none, some 4, some 1]] [v47] H8) ⟨fun v48 H9 =>
 o' (callP false s4 [[some 1], [none]] [v46, v48] H9) ⟨fun v49 H10 =>
 o' (callP false s6 [[some 1], [some 1], [some 1], [none]] [v40, v44, v49, (.int .i64 60000)] H10) ⟨fun v50 H11 =>
 o' (z_bo T.ty_api_Outcome (some (.agg [(.int .i64 0), (.int .i64 0), (.int .i64 0), .nils, .nils])) H11) ⟨fun v11 H12 =>
 w' (z_ac (some 5) v11 v50 H12) ⟨fun _ H13 =>
 z_bw [z_am (some none) v45 H4 = z_am (some none) v45 H5, z_am (some none) v45 H8 = z_am (some none) v45 H9, z_am (some (some 3)) (fr 3) H4 = z_am (some (some 3)) (fr 3) H5] (e' [(10, fr 10), (11, v11)] H13)⟩⟩⟩⟩⟩⟩⟩⟩⟩⟩⟩⟩⟩)
@[simp] def r8 (s2 s7 s8 : SpecP) (fr : AFr) (H : Hp) : ARes :=
 areg (q' (fa' 2 (fr 10)) H ⟨fun v51 H1 =>
 q' (ld' v51 H1) H1 ⟨fun v52 H2 =>
 q' (bn' .eql v52 (.int .i64 0)) H2 ⟨fun v53 H3 =>
 q' (some v53) H3 ⟨fun v54 H4 =>
 G' v54 true ⟨fa' 2 (fr 11)⟩ H4 ⟨fun v55 H5 =>
 G' v54 true ⟨ld' v55 H5⟩ H5 ⟨fun v56 H6 =>
 G' v54 true ⟨bn' .eql v56 (.int .i64 0)⟩ H6 ⟨fun v57 H7 =>
 q' (apick v54 v57 (.bool false)) H7 ⟨fun v58 H8 =>
 q' (some v58) H8 ⟨fun v59 H9 =>
 G' v59 true ⟨fa' 4 (fr 10)⟩ H9 ⟨fun v60 H10 =>
 G' v59 true ⟨ld' v60 H10⟩ H10 ⟨fun v61 H11 =>
 G' v59 true ⟨fa' 4 (fr 11)⟩ H11 ⟨fun v62 H12 =>
 G' v59 true ⟨ld' v62 H12⟩ H12 ⟨fun v63 H13 =>
 o' (g' (gw v59 true) ⟨callP false s7 [[some 10], [some 10]] [v61, v63] H13⟩ H13) ⟨fun v64 H14 =>
 q' (apick v59 v64 (.bool false)) H14 ⟨fun v65 H15 =>
 q' (some v65) H15 ⟨fun v66 H16 =>
 G' v66 true ⟨fa' 4 (fr 10)⟩ H16 ⟨fun v67 H17 =>
 G' v66 true ⟨ld' v67 H17⟩ H17 ⟨fun v68 H18 =>
 o' (g' (gw v66 true) ⟨callP false s8 [[some 10]] [v68] H18⟩ H18) ⟨fun v69 H19 =>
 G' v66 true ⟨fa' 4 (fr 11)⟩ H19 ⟨fun v70 H20 =>
 G' v66 true ⟨ld' v70 H20⟩ H20 ⟨fun v71 H21 =>
 o' (g' (gw v66 true) ⟨callP false s8 [[some 10]] [v71] H21⟩ H21) ⟨fun v72 H22 =>
 G' v66 true ⟨bn' .eql v69 v72⟩ H22 ⟨fun v73 H23 =>
 q' (apick v66 v73 (.bool false)) H23 ⟨fun v74 H24 =>
 q' (some v74) H24 ⟨fun v75 H25 =>
 o' (g' (gw v75 true) ⟨callP false s2 [] [] H25⟩ H25) ⟨fun v76 H26 =>
 q' (apick v75 v76 (.bool false)) H26 ⟨fun v77 H27 =>
 q' (some v77) H27 ⟨fun v6 H28 =>
 z_bw [z_am (some none) v70 H18 = z_am (some none) v70 H19] (e' [(6, v6)] H28)⟩⟩⟩⟩⟩⟩⟩⟩⟩⟩⟩⟩⟩⟩⟩⟩⟩⟩⟩⟩⟩⟩⟩⟩⟩⟩⟩⟩)
@[simp] def body (s0 s1 s2 s3 s4 s5 s6 s7 s8 : SpecP) (fr : AFr) (H : Hp) : ARes :=
 s' (r0 fr H) ⟨fun fr H =>
 s' (s' (r1 s0 s1 fr H) ⟨fun fr H =>
 c' (fr 19)
 ⟨s' (r2 s2 fr H) ⟨fun fr H =>
 some (.ret, fr, H)⟩⟩
 ⟨some (.normal, fr, H)⟩⟩) ⟨fun fr H =>
 s' (r3 s3 fr H) ⟨fun fr H =>
 s' (s' (r4 fr H) ⟨fun fr H =>
 c' (fr 28)
 ⟨s' (r5 fr H) ⟨fun fr H =>
 some (.ret, fr, H)⟩⟩
 ⟨some (.normal, fr, H)⟩⟩) ⟨fun fr H =>
 s' (r6 s4 s5 s6 fr H) ⟨fun fr H =>
 s' (r7 s4 s5 s6 fr H) ⟨fun fr H =>
 s' (r8 s2 s7 s8 fr H) ⟨fun fr H =>
 some (.ret, fr, H)⟩⟩⟩⟩⟩⟩⟩
@[simp] def res (fr : AFr) (H : Hp) : Option (List AV) := res2 (some (fr 6)) (some [])
end law25_EmitRoads
def law25_EmitRoads (a0 a1 a2 : AV) : Option AV := z_ap (some [[none]]) (afinR law25_EmitRoads.res (law25_EmitRoads.body z_c6.spec z_b0.spec z_c1.spec z_dj.spec z_cx.spec z_bv.spec z_bf.spec z_ce.spec z_ba.spec (args0 [a0, a1, a2]) Hp.empty))
def law25_EmitRoads.spec : List AV → Option AV
 | [a0, a1, a2] => law25_EmitRoads a0 a1 a2
 | _ => none
end
end Go.Abs
end
section
namespace Go.Abs
theorem Mixed : Go.Proofs.Try.prog.follows .mixedOrders = true := by kernel_rfl
noncomputable abbrev tp := Go.Proofs.Try.prog
noncomputable def co (fn : Func) : Code := match fn.body with | some c => c | none => .skip
section
variable {C : Tab} {K : Nat → List Nat} {f : FuncId} {fn : Func} (hC : Tab.Sound tp C) (hf : tp.funcs[f]? = some fn) (hb : fn.body = some (co fn)) (hok : z_ek fn.ntmps (co fn) = true) (hcl : Callable tp f)
 {B : AFr → Hp → ARes} (hB : ∀ fr H, acode tp C (draws tp C) K (co fn) fr H = B fr H) (n : Nat) (hn : n ≤ fn.ntmps) {g : AFr → Hp → Option (List AV)} (hg : ∀ fr H, aresults tp fr H fn.results.toList = g fr H)
include hC hf hb hok hcl hB hn hg
omit hf hb hok hcl hC in
theorem runB {args : List AV} (hl : args.length = n) (H : Hp) : arun tp C (draws tp C) K fn (co fn) args H = afinR g (B (args0 args) H) := by
 unfold arun
 rw [if_pos (by omega)]
 unfold afin
 rw [hB, show (fun fr H => aresults tp fr H fn.results.toList) = g from funext fun fr => funext fun H => hg fr H]
theorem sayP {ts : Option (List (List (Option Nat)))} (hts : tysOf tp fn.resultTypes.toList = ts) {spec : List AV → Option AV} (hs : ∀ args r, spec args = some r → args.length = n ∧ z_ap ts (afinR g (B (args0 args) Hp.empty)) = some r) : Sound tp f (.pure false spec) :=
 (z_k1 hC Mixed (draws _ _) K hf hb hok hcl).less fun args r h => by
  obtain ⟨h1, h2⟩ := hs args r h
  unfold z_nk z_pl
  rw [runB hB n hn hg h1, hts]; exact h2
theorem sayR {fz : List Bool} {spec : List AV → Hp → Option (AV × Hp)} (hs : ∀ args H r, spec args H = some r → args.length = n ∧ raw (afinR g (B (args0 args) H)) = some r) : Sound tp f (.ref fz spec) :=
 (z_sg hC Mixed (draws _ _) K hf hb hok hcl fz).lessR fun args H r h => by
  obtain ⟨h1, h2⟩ := hs args H r h
  unfold refOf
  rw [runB hB n hn hg h1]; exact h2
theorem sayT {fz : List Bool} {spec : List AV → Hp → Option (AV × Hp)} (hs : ∀ args H r, spec args H = some r → args.length = n ∧ forget H (afinR g (B (args0 args) H)) = some r) : Sound tp f (.ref fz spec) :=
 (z_qw hC Mixed (draws _ _) K hf hb hok hcl fz).lessR fun args H r h => by
  obtain ⟨h1, h2⟩ := hs args H r h
  unfold refT
  rw [runB hB n hn hg h1]; exact h2
end
end Go.Abs
end
section
namespace Go.Abs
open Go.Proofs.Try
namespace z_bb
def K : Nat → List Nat
 | 0 => [0]
 | 1 => [3]
 | 2 => [3, 4]
 | 3 => [3, 4]
 | 4 => [2]
 | 5 => [3, 7]
 | 6 => [3, 7]
 | 7 => [3, 7]
 | 8 => [3, 7]
 | 9 => [7]
 | 10 => [2]
 | 11 => [2]
 | _ => []
theorem z_ad (fr : AFr) (H : Hp) : acode tp C (draws tp C) K (co f155) fr H = body fr H := by kernel_rfl
theorem sound : Sound tp 155 (.pure false spec) := sayP Tab.Sound.none func155 (by kernel_rfl) (by kernel_rfl) (fun a w => call155 a w) z_ad 1 (by decide +kernel) (g := res) (fun fr H => by kernel_rfl) (ts := some [[none]]) (by kernel_rfl) fun args r h => by
 unfold spec at h; split at h <;> first | exact ⟨rfl, h⟩ | cases h
end z_bb
namespace z_bd
def K : Nat → List Nat
 | 0 => [1]
 | 1 => [1, 4]
 | 2 => [1, 4, 5]
 | 3 => [2]
 | 4 => [1, 4, 7]
 | 5 => [1, 4, 7]
 | 6 => [1, 7]
 | 7 => [2]
 | 8 => [2]
 | _ => []
theorem z_ad (fr : AFr) (H : Hp) : acode tp C (draws tp C) K (co f156) fr H = body fr H := by kernel_rfl
theorem sound : Sound tp 156 (.pure false spec) := sayP Tab.Sound.none func156 (by kernel_rfl) (by kernel_rfl) (fun a w => call156 a w) z_ad 1 (by decide +kernel) (g := res) (fun fr H => by kernel_rfl) (ts := some [[none]]) (by kernel_rfl) fun args r h => by
 unfold spec at h; split at h <;> first | exact ⟨rfl, h⟩ | cases h
end z_bd
namespace z_cl
def K : Nat → List Nat
 | 0 => [0, 1, 2]
 | 1 => [0, 1, 8]
 | 2 => [6]
 | 3 => [6]
 | _ => []
theorem z_ad (fr : AFr) (H : Hp) : acode tp C (draws tp C) K (co f157) fr H = body fr H := by kernel_rfl
theorem sound : Sound tp 157 (.pure false spec) := sayP Tab.Sound.none func157 (by kernel_rfl) (by kernel_rfl) (fun a w => call157 a w) z_ad 3 (by decide +kernel) (g := res) (fun fr H => by kernel_rfl) (ts := some [[none]]) (by kernel_rfl) fun args r h => by
 unfold spec at h; split at h <;> first | exact ⟨rfl, h⟩ | cases h
end z_cl
namespace z_b2
def K : Nat → List Nat
 | 0 => [1]
 | 1 => [1, 21]
 | 2 => [2]
 | 3 => [1, 23, 24, 25]
 | 4 => [1, 23, 24, 25, 26]
 | 5 => [1, 3, 4, 23, 24, 25]
 | 6 => [1, 3, 4, 5, 23, 24, 25]
 | 7 => [1, 23, 24, 25, 69]
 | 8 => [2]
 | 9 => [1, 23, 24, 25]
 | 10 => [1, 72, 73, 74]
 | 11 => [1, 72, 73, 74, 75]
 | 12 => [1, 7, 72, 73, 74]
 | 13 => [1, 72, 73, 74, 86]
 | 14 => [2]
 | 15 => [1, 72, 73, 74]
 | 16 => [2]
 | _ => []
theorem z_ad (s0 s1 s2 : SpecP) (fr : AFr) (H : Hp) : acode tp (C s0 s1 s2) (draws tp (C s0 s1 s2)) K (co f113) fr H = body s0 s1 s2 fr H := by kernel_rfl
theorem sound : Sound tp 113 (.pure false spec) := sayP (((Tab.Sound.none.add z_bb.sound).add z_bd.sound).add z_cl.sound) func113 (by kernel_rfl) (by kernel_rfl) (fun a w => call113 a w) (z_ad z_bb.spec z_bd.spec z_cl.spec) 1 (by decide +kernel) (g := res) (fun fr H => by kernel_rfl) (ts := some [[none]]) (by kernel_rfl) fun args r h => by
 unfold spec at h; split at h <;> first | exact ⟨rfl, h⟩ | cases h
end z_b2
namespace z_d9
def K : Nat → List Nat
 | 0 => [1]
 | 1 => [2]
 | _ => []
theorem z_ad (s0 : SpecP) (fr : AFr) (H : Hp) : acode tp (C s0) (draws tp (C s0)) K (co f68) fr H = body s0 fr H := by kernel_rfl
theorem sound : Sound tp 68 (.pure false spec) := sayP (Tab.Sound.none.add z_b2.sound) func68 (by kernel_rfl) (by kernel_rfl) (fun a w => call68 a w) (z_ad z_b2.spec) 1 (by decide +kernel) (g := res) (fun fr H => by kernel_rfl) (ts := some [[none]]) (by kernel_rfl) fun args r h => by
 unfold spec at h; split at h <;> first | exact ⟨rfl, h⟩ | cases h
end z_d9
end Go.Abs
end
section
section
namespace Go.Abs
open Go.Proofs.Try
namespace z_ab
def K : Nat → List Nat
 | 0 => [0, 2]
 | 1 => [0, 2, 3, 4, 5]
 | 2 => [0, 2, 3, 4, 5, 6, 7]
 | 3 => [0, 2, 3, 4, 5, 6, 7, 13]
 | 4 => [0, 2, 3, 4, 5, 6, 7, 13, 14]
 | 5 => [0, 2, 3, 4, 5, 6, 7, 13, 14]
 | 6 => [0, 2, 3, 4, 5, 6, 7, 13, 14]
 | 7 => [0, 2, 3, 4, 5, 6, 7, 13, 14]
 | 8 => [2]
 | 9 => [0, 2, 3, 4, 5, 6, 7, 13, 28]
 | 10 => [2]
 | 11 => [0, 2, 3, 4, 5, 6, 7, 13, 35]
 | 12 => [0, 2, 3, 4, 5, 6, 7, 13, 35]
 | 13 => [2]
 | 14 => [0, 2, 3, 4, 5, 6, 7, 13, 47]
 | 15 => [0, 2, 3, 4, 5, 6, 7, 13, 47]
 | 16 => [2]
 | 17 => [0, 2, 3, 4, 5, 6, 7, 13, 60]
 | 18 => [0, 2, 3, 4, 5, 6, 7, 13, 60]
 | 19 => [2]
 | 20 => [2, 3, 4, 5, 6, 7, 13, 73]
 | 21 => [2]
 | 22 => [2, 3, 4, 5, 6, 13, 80]
 | 23 => [2]
 | 24 => [2, 3, 4, 5, 6, 13, 87]
 | 25 => [2]
 | 26 => [2, 3, 4, 5, 6, 13, 94]
 | 27 => [2]
 | 28 => [2, 3, 4, 5, 6, 13, 101]
 | 29 => [2]
 | 30 => [2, 6, 13, 108]
 | 31 => [2]
 | 32 => [2, 6, 13, 114]
 | 33 => [2]
 | 34 => [2, 6, 13, 119]
 | 35 => [2]
 | 36 => [2, 6, 125]
 | 37 => [2]
 | 38 => [2]
 | _ => []
theorem z_ad (fr : AFr) (H : Hp) : acode tp C (draws tp C) K (co f65) fr H = body fr H := by kernel_rfl
theorem sound : Sound tp 65 (.pure false spec) := sayP Tab.Sound.none func65 (by kernel_rfl) (by kernel_rfl) (fun a w => call65 a w) z_ad 1 (by decide +kernel) (g := res) (fun fr H => by kernel_rfl) (ts := some [[none, none, none, none, none, none, none, none, none, none, none, none]]) (by kernel_rfl) fun args r h => by
 unfold spec at h; split at h <;> first | exact ⟨rfl, h⟩ | cases h
end z_ab
namespace z_a5
def K : Nat → List Nat
 | 0 => [0, 1]
 | 1 => [0, 5]
 | 2 => [0, 5, 6]
 | 3 => [0, 5, 6]
 | 4 => [4]
 | 5 => [0, 5, 12]
 | 6 => [4]
 | 7 => [0, 17]
 | 8 => [4]
 | 9 => [4]
 | _ => []
theorem z_ad (fr : AFr) (H : Hp) : acode tp C (draws tp C) K (co f66) fr H = body fr H := by kernel_rfl
theorem sound : Sound tp 66 (.ref [false, false] spec) := sayR Tab.Sound.none func66 (by kernel_rfl) (by kernel_rfl) (fun a w => call66 a w) z_ad 2 (by decide +kernel) (g := res) (fun fr H => by kernel_rfl) fun args H r h => by
 unfold spec at h; split at h <;> first | exact ⟨rfl, h⟩ | cases h
end z_a5
namespace z_af
def K : Nat → List Nat
 | 0 => [1]
 | 1 => [1, 15]
 | 2 => [2]
 | 3 => [1, 3]
 | 4 => [1, 3, 30]
 | 5 => [2]
 | 6 => [1, 3, 4]
 | 7 => [1, 4, 33, 34]
 | 8 => [1, 4, 33, 34, 35]
 | 9 => [1, 4, 6, 33, 34]
 | 10 => [1, 4, 6, 7, 33, 34]
 | 11 => [1, 4, 6, 7, 33, 34, 42]
 | 12 => [1, 4, 6, 7, 33, 34, 46]
 | 13 => [1, 4, 6, 33, 34, 46]
 | 14 => [2]
 | 15 => [1, 4, 33, 34]
 | 16 => [1, 4, 33, 34]
 | 17 => [2]
 | _ => []
theorem z_ad (s0 : SpecP) (s1 : SpecM) (fr : AFr) (H : Hp) : acode tp (C s0 s1) (draws tp (C s0 s1)) K (co f59) fr H = body s0 s1 fr H := by kernel_rfl
theorem sound : Sound tp 59 (.pure false spec) := sayP ((Tab.Sound.none.add z_ab.sound).add z_a5.sound) func59 (by kernel_rfl) (by kernel_rfl) (fun a w => call59 a w) (z_ad z_ab.spec z_a5.spec) 1 (by decide +kernel) (g := res) (fun fr H => by kernel_rfl) (ts := some [[none]]) (by kernel_rfl) fun args r h => by
 unfold spec at h; split at h <;> first | exact ⟨rfl, h⟩ | cases h
end z_af
namespace z_ag
def K : Nat → List Nat
 | 0 => [1]
 | 1 => [1, 3]
 | 2 => [1, 3, 4]
 | 3 => [1, 4, 13, 14]
 | 4 => [1, 4, 13, 14, 15]
 | 5 => [1, 4, 6, 13, 14]
 | 6 => [1, 4, 6, 13, 14, 19]
 | 7 => [1, 4, 13, 14]
 | 8 => [1, 4, 13, 14]
 | 9 => [2]
 | _ => []
theorem z_ad (s0 : SpecP) (s1 : SpecM) (fr : AFr) (H : Hp) : acode tp (C s0 s1) (draws tp (C s0 s1)) K (co f67) fr H = body s0 s1 fr H := by kernel_rfl
theorem sound : Sound tp 67 (.pure false spec) := sayP ((Tab.Sound.none.add z_ab.sound).add z_a5.sound) func67 (by kernel_rfl) (by kernel_rfl) (fun a w => call67 a w) (z_ad z_ab.spec z_a5.spec) 1 (by decide +kernel) (g := res) (fun fr H => by kernel_rfl) (ts := some [[none]]) (by kernel_rfl) fun args r h => by
 unfold spec at h; split at h <;> first | exact ⟨rfl, h⟩ | cases h
end z_ag
namespace z_dd
def K : Nat → List Nat
 | 0 => [1]
 | 1 => [1, 6]
 | 2 => [2, 3]
 | 3 => [2, 3]
 | _ => []
theorem z_ad (s0 s1 : SpecP) (fr : AFr) (H : Hp) : acode tp (C s0 s1) (draws tp (C s0 s1)) K (co f63) fr H = body s0 s1 fr H := by kernel_rfl
theorem sound : Sound tp 63 (.pure false spec) := sayP ((Tab.Sound.none.add z_af.sound).add z_ag.sound) func63 (by kernel_rfl) (by kernel_rfl) (fun a w => call63 a w) (z_ad z_af.spec z_ag.spec) 1 (by decide +kernel) (g := res) (fun fr H => by kernel_rfl) (ts := some [[none], [none]]) (by kernel_rfl) fun args r h => by
 unfold spec at h; split at h <;> first | exact ⟨rfl, h⟩ | cases h
end z_dd
end Go.Abs
end
section
namespace Go.Abs
open Go.Proofs.Try
namespace z_ax
def K : Nat → List Nat
 | 0 => [0]
 | 1 => [2]
 | _ => []
theorem z_ad (fr : AFr) (H : Hp) : acode tp C (draws tp C) K (co f107) fr H = body fr H := by kernel_rfl
theorem sound : Sound tp 107 (.pure false spec) := sayP Tab.Sound.none func107 (by kernel_rfl) (by kernel_rfl) (fun a w => call107 a w) z_ad 1 (by decide +kernel) (g := res) (fun fr H => by kernel_rfl) (ts := some [[none]]) (by kernel_rfl) fun args r h => by
 unfold spec at h; split at h <;> first | exact ⟨rfl, h⟩ | cases h
end z_ax
namespace z_cw
def K : Nat → List Nat
 | 0 => [0, 1]
 | 1 => [0, 1, 5]
 | 2 => [0, 1, 5, 9]
 | 4 => [0, 1, 5, 16]
 | 5 => [4]
 | 3 => [0, 1, 5]
 | 6 => [4]
 | _ => []
theorem z_ad (fr : AFr) (H : Hp) : acode tp C (draws tp C) K (co f108) fr H = body fr H := by kernel_rfl
theorem sound : Sound tp 108 (.pure false spec) := sayP Tab.Sound.none func108 (by kernel_rfl) (by kernel_rfl) (fun a w => call108 a w) z_ad 2 (by decide +kernel) (g := res) (fun fr H => by kernel_rfl) (ts := some [[none]]) (by kernel_rfl) fun args r h => by
 unfold spec at h; split at h <;> first | exact ⟨rfl, h⟩ | cases h
end z_cw
namespace z_be
def K : Nat → List Nat
 | 0 => [0]
 | 1 => [2]
 | _ => []
theorem z_ad (fr : AFr) (H : Hp) : acode tp C (draws tp C) K (co f109) fr H = body fr H := by kernel_rfl
theorem sound : Sound tp 109 (.pure false spec) := sayP Tab.Sound.none func109 (by kernel_rfl) (by kernel_rfl) (fun a w => call109 a w) z_ad 1 (by decide +kernel) (g := res) (fun fr H => by kernel_rfl) (ts := some [[none]]) (by kernel_rfl) fun args r h => by
 unfold spec at h; split at h <;> first | exact ⟨rfl, h⟩ | cases h
end z_be
namespace z_a2
def K : Nat → List Nat
 | 0 => [0]
 | 1 => [2]
 | _ => []
theorem z_ad (fr : AFr) (H : Hp) : acode tp C (draws tp C) K (co f110) fr H = body fr H := by kernel_rfl
theorem sound : Sound tp 110 (.pure false spec) := sayP Tab.Sound.none func110 (by kernel_rfl) (by kernel_rfl) (fun a w => call110 a w) z_ad 1 (by decide +kernel) (g := res) (fun fr H => by kernel_rfl) (ts := some [[none]]) (by kernel_rfl) fun args r h => by
 unfold spec at h; split at h <;> first | exact ⟨rfl, h⟩ | cases h
end z_a2
namespace z_ah
def K : Nat → List Nat
 | 0 => [1]
 | 1 => [1, 11]
 | 2 => [2]
 | 3 => [1, 3]
 | 4 => [1, 3, 16]
 | 5 => [1, 3, 24]
 | 6 => [2]
 | 7 => [1, 3, 42]
 | 8 => [2]
 | 9 => [2]
 | _ => []
theorem z_ad (s0 s1 s2 s3 : SpecP) (fr : AFr) (H : Hp) : acode tp (C s0 s1 s2 s3) (draws tp (C s0 s1 s2 s3)) K (co f60) fr H = body s0 s1 s2 s3 fr H := by kernel_rfl
theorem sound : Sound tp 60 (.pure false spec) := sayP ((((Tab.Sound.none.add z_ax.sound).add z_cw.sound).add z_be.sound).add z_a2.sound) func60 (by kernel_rfl) (by kernel_rfl) (fun a w => call60 a w) (z_ad z_ax.spec z_cw.spec z_be.spec z_a2.spec) 1 (by decide +kernel) (g := res) (fun fr H => by kernel_rfl) (ts := some [[none]]) (by kernel_rfl) fun args r h => by
 unfold spec at h; split at h <;> first | exact ⟨rfl, h⟩ | cases h
end z_ah
namespace z_bj
def K : Nat → List Nat
 | 0 => [1]
 | 1 => [1, 4]
 | 2 => [1, 44]
 | 3 => [2, 3]
 | 4 => [2, 3]
 | _ => []
theorem z_ad (s0 : SpecP) (fr : AFr) (H : Hp) : acode tp (C s0) (draws tp (C s0)) K (co f16) fr H = body s0 fr H := by kernel_rfl
theorem sound : Sound tp 16 (.pure false spec) := sayP (Tab.Sound.none.add z_ah.sound) func16 (by kernel_rfl) (by kernel_rfl) (fun a w => call16 a w) (z_ad z_ah.spec) 1 (by decide +kernel) (g := res) (fun fr H => by kernel_rfl) (ts := some [[none], [none]]) (by kernel_rfl) fun args r h => by
 unfold spec at h; split at h <;> first | exact ⟨rfl, h⟩ | cases h
end z_bj
namespace z_az
def K : Nat → List Nat
 | 0 => [0, 2]
 | 1 => [0, 2, 4]
 | 2 => [0, 2, 4, 13]
 | 4 => [0, 2, 4, 5, 6, 7, 8]
 | 5 => [0, 2, 4, 5, 6, 7, 8, 9]
 | 6 => [0, 2, 4, 5, 6, 7, 8, 9, 10]
 | 7 => [0, 2, 4, 5, 6, 7, 8, 9, 10, 23]
 | 9 => [0, 2, 4, 5, 6, 7, 8, 9, 10, 11]
 | 10 => [0, 2, 4, 5, 6, 7, 8, 9, 10, 11, 27]
 | 11 => [0, 2, 4, 5, 6, 7, 8, 9, 10, 11]
 | 12 => [0, 2, 4, 5, 6, 7, 8, 9, 10, 11]
 | 13 => [0, 2, 4, 5, 6, 7, 8, 9, 10, 11, 34]
 | 14 => [0, 2, 4, 5, 6, 7, 8, 9, 10, 11, 34, 35]
 | 15 => [0, 2, 4, 5, 6, 7, 8, 9, 10, 11, 34, 35]
 | 16 => [0, 2, 4, 5, 6, 7, 8, 9, 10]
 | 17 => [0, 2, 4, 5, 6, 7, 8, 9, 10, 11, 34, 48]
 | 18 => [0, 2, 4, 5, 6, 7, 8, 9, 10, 11, 34, 48]
 | 19 => [0, 2, 4, 5, 6, 7, 8, 9, 10]
 | 20 => [0, 2, 4, 5, 6, 7, 8, 9, 10, 11, 34, 57]
 | 21 => [0, 2, 4, 5, 6, 7, 8, 9, 10]
 | 22 => [0, 2, 4, 5, 6, 7, 8, 9, 10, 11, 34, 65]
 | 23 => [0, 2, 4, 5, 6, 7, 8, 9, 10]
 | 24 => [0, 2, 4, 5, 6, 7, 8, 9, 10, 11, 73]
 | 25 => [0, 2, 4, 5, 6, 7, 8, 9, 10]
 | 8 => [0, 2, 4, 5, 6, 7, 8, 9, 10]
 | 26 => [0, 2, 4, 6, 7, 8, 92]
 | 27 => [0, 2, 4, 6, 7]
 | 28 => [0, 2, 4, 6, 7, 105]
 | 29 => [0, 2, 4, 6, 7]
 | 30 => [0, 2, 4, 6, 111]
 | 31 => [2, 3]
 | 3 => [0, 2, 4]
 | 32 => [2, 3]
 | _ => []
theorem z_ad (s0 s1 s2 s3 : SpecP) (fr : AFr) (H : Hp) : acode tp (C s0 s1 s2 s3) (draws tp (C s0 s1 s2 s3)) K (co f83) fr H = body s0 s1 s2 s3 fr H := by kernel_rfl
theorem sound : Sound tp 83 (.pure false spec) := sayP ((((Tab.Sound.none.add z_ax.sound).add z_be.sound).add z_a2.sound).add z_ah.sound) func83 (by kernel_rfl) (by kernel_rfl) (fun a w => call83 a w) (z_ad z_ax.spec z_be.spec z_a2.spec z_ah.spec) 1 (by decide +kernel) (g := res) (fun fr H => by kernel_rfl) (ts := some [[none, none, none, none, none], [none]]) (by kernel_rfl) fun args r h => by
 unfold spec at h; split at h <;> first | exact ⟨rfl, h⟩ | cases h
end z_az
end Go.Abs
end
section
end
section
namespace Go.Abs
open Go.Proofs.Try
namespace z_b1
def K : Nat → List Nat
 | 0 => [0, 1, 2]
 | 1 => [0, 1, 7]
 | 2 => [0, 1, 7, 8]
 | 3 => [0, 1, 7, 8, 21]
 | 5 => [0, 1, 7, 8]
 | 4 => [0, 1, 7, 8]
 | 6 => [1, 7, 38]
 | 7 => [1, 7]
 | 8 => [1, 7, 40]
 | 9 => [7]
 | 10 => [6]
 | _ => []
theorem z_ad (fr : AFr) (H : Hp) : acode tp C (draws tp C) K (co f85) fr H = body fr H := by kernel_rfl
theorem sound : Sound tp 85 (.ref [true, false, true] spec) := sayR Tab.Sound.none func85 (by kernel_rfl) (by kernel_rfl) (fun a w => call85 a w) z_ad 3 (by decide +kernel) (g := res) (fun fr H => by kernel_rfl) fun args H r h => by
 unfold spec at h; split at h <;> first | exact ⟨rfl, h⟩ | cases h
end z_b1
namespace z_ay
def K : Nat → List Nat
 | 0 => [0, 1]
 | 1 => [0, 1, 19]
 | 2 => [4, 5]
 | 3 => [4, 5]
 | _ => []
theorem z_ad (fr : AFr) (H : Hp) : acode tp C (draws tp C) K (co f124) fr H = body fr H := by kernel_rfl
theorem sound : Sound tp 124 (.ref [false, false] spec) := sayT Tab.Sound.none func124 (by kernel_rfl) (by kernel_rfl) (fun a w => call124 a w) z_ad 2 (by decide +kernel) (g := res) (fun fr H => by kernel_rfl) fun args H r h => by
 unfold spec at h; split at h <;> first | exact ⟨rfl, h⟩ | cases h
end z_ay
namespace z_au
def K : Nat → List Nat
 | 0 => [0, 1]
 | 1 => [0, 1, 10]
 | 2 => [4, 5]
 | 3 => [0, 1]
 | 4 => [0, 1, 12]
 | 5 => [0, 22]
 | 6 => [4, 5]
 | 7 => [0, 6]
 | 8 => [0, 1, 54]
 | 9 => [0, 6]
 | 10 => [0, 7]
 | 11 => [0, 7, 74]
 | 12 => [0, 6]
 | 13 => [4, 5]
 | 14 => [6]
 | 15 => [4, 5]
 | _ => []
theorem z_ad (fr : AFr) (H : Hp) : acode tp C (draws tp C) K (co f166) fr H = body fr H := by kernel_rfl
theorem sound : Sound tp 166 (.ref [false, false] spec) := sayT Tab.Sound.none func166 (by kernel_rfl) (by kernel_rfl) (fun a w => call166 a w) z_ad 2 (by decide +kernel) (g := res) (fun fr H => by kernel_rfl) fun args H r h => by
 unfold spec at h; split at h <;> first | exact ⟨rfl, h⟩ | cases h
end z_au
namespace z_a6
def K : Nat → List Nat
 | 0 => [0, 1, 2]
 | 1 => [0, 1, 2, 25]
 | 2 => [6]
 | 3 => []
 | 4 => [6]
 | _ => []
theorem z_ad (fr : AFr) (H : Hp) : acode tp C (draws tp C) K (co f167) fr H = body fr H := by kernel_rfl
theorem sound : Sound tp 167 (.ref [false, false, false] spec) := sayT Tab.Sound.none func167 (by kernel_rfl) (by kernel_rfl) (fun a w => call167 a w) z_ad 3 (by decide +kernel) (g := res) (fun fr H => by kernel_rfl) fun args H r h => by
 unfold spec at h; split at h <;> first | exact ⟨rfl, h⟩ | cases h
end z_a6
end Go.Abs
end
section
end
section
namespace Go.Abs
open Go.Proofs.Try
namespace z_bu
def K : Nat → List Nat
 | 0 => [0]
 | 1 => [0, 3]
 | 2 => [0, 3, 4]
 | 3 => [0, 3, 4, 7]
 | 5 => [0, 3, 4]
 | 6 => [0, 3, 4]
 | 4 => [0, 3, 4]
 | 7 => [2]
 | _ => []
theorem z_ad (fr : AFr) (H : Hp) : acode tp C (draws tp C) K (co f96) fr H = body fr H := by kernel_rfl
theorem sound : Sound tp 96 (.pure false spec) := sayP Tab.Sound.none func96 (by kernel_rfl) (by kernel_rfl) (fun a w => call96 a w) z_ad 1 (by decide +kernel) (g := res) (fun fr H => by kernel_rfl) (ts := some [[some 1]]) (by kernel_rfl) fun args r h => by
 unfold spec at h; split at h <;> first | exact ⟨rfl, h⟩ | cases h
end z_bu
namespace z_br
def K : Nat → List Nat
 | 0 => [0]
 | 1 => [0, 3]
 | 2 => [0, 3, 4]
 | 3 => [0, 3, 4, 9]
 | 5 => [0, 3, 4]
 | 6 => [0, 3, 4, 17]
 | 7 => [0, 3, 4]
 | 4 => [0, 3, 4]
 | 8 => [2]
 | _ => []
theorem z_ad (fr : AFr) (H : Hp) : acode tp C (draws tp C) K (co f97) fr H = body fr H := by kernel_rfl
theorem sound : Sound tp 97 (.pure false spec) := sayP Tab.Sound.none func97 (by kernel_rfl) (by kernel_rfl) (fun a w => call97 a w) z_ad 1 (by decide +kernel) (g := res) (fun fr H => by kernel_rfl) (ts := some [[none]]) (by kernel_rfl) fun args r h => by
 unfold spec at h; split at h <;> first | exact ⟨rfl, h⟩ | cases h
end z_br
namespace z_c5
def K : Nat → List Nat
 | 0 => [0, 1, 2]
 | 1 => [2, 9, 10, 11]
 | 2 => [2, 9, 10, 11, 12]
 | 3 => [2, 9, 10, 11, 12, 20]
 | 5 => [2, 9, 10, 11, 12, 13]
 | 6 => [2, 9, 10, 11, 12, 13, 26]
 | 7 => [2, 9, 10, 11, 12, 13]
 | 8 => [2, 9, 10, 11, 12, 13, 32]
 | 9 => [2, 9, 10, 11, 12, 13]
 | 10 => [9, 10, 11, 12, 13, 35]
 | 11 => [9, 10, 11, 12, 13]
 | 12 => [2, 9, 10, 11, 12]
 | 4 => [2, 9, 10, 11, 12]
 | 13 => [6, 7, 8]
 | _ => []
theorem z_ad (s0 s1 : SpecP) (fr : AFr) (H : Hp) : acode tp (C s0 s1) (draws tp (C s0 s1)) K (co f46) fr H = body s0 s1 fr H := by kernel_rfl
theorem sound : Sound tp 46 (.pure false spec) := sayP ((Tab.Sound.none.add z_bu.sound).add z_br.sound) func46 (by kernel_rfl) (by kernel_rfl) (fun a w => call46 a w) (z_ad z_bu.spec z_br.spec) 3 (by decide +kernel) (g := res) (fun fr H => by kernel_rfl) (ts := some [[none], [none], [none]]) (by kernel_rfl) fun args r h => by
 unfold spec at h; split at h <;> first | exact ⟨rfl, h⟩ | cases h
end z_c5
namespace z_aq
def K : Nat → List Nat
 | 0 => [0, 1, 2, 3]
 | 1 => [0, 1, 2, 3, 19]
 | 2 => [8, 9]
 | 3 => [0, 1, 2, 3, 25]
 | 4 => [0, 1, 2, 3]
 | 5 => [0, 2, 3, 10]
 | 6 => [0, 2, 3, 10, 11]
 | 7 => [0, 2, 3, 10, 11, 37]
 | 9 => [0, 2, 10, 11, 12]
 | 10 => [0, 2, 10, 11, 12, 13]
 | 11 => [0, 2, 10, 11, 12, 13, 42]
 | 13 => [0, 2, 10, 11, 12, 13, 50]
 | 14 => [0, 2, 10, 11, 12, 13]
 | 15 => [0, 2, 10, 11, 12, 13, 64]
 | 16 => [0, 2, 10, 11, 12, 13]
 | 12 => [0, 2, 10, 11, 12, 13]
 | 17 => [0, 2, 10, 11, 12, 74]
 | 18 => [0, 2, 3, 10, 11, 12]
 | 19 => [0, 2, 3, 10, 11, 12]
 | 20 => [0, 2, 3, 10, 11, 12, 82]
 | 21 => [0, 2, 3, 10, 11, 12]
 | 22 => [0, 2, 3, 10, 11, 12, 89]
 | 23 => [0, 2, 3, 11, 12]
 | 24 => [0, 2, 3, 10, 11]
 | 8 => [0, 2, 3, 10, 11]
 | 25 => [8, 9]
 | _ => []
theorem z_ad (s0 s1 : SpecP) (fr : AFr) (H : Hp) : acode tp (C s0 s1) (draws tp (C s0 s1)) K (co f87) fr H = body s0 s1 fr H := by kernel_rfl
theorem sound : Sound tp 87 (.pure false spec) := sayP ((Tab.Sound.none.add z_bu.sound).add z_br.sound) func87 (by kernel_rfl) (by kernel_rfl) (fun a w => call87 a w) (z_ad z_bu.spec z_br.spec) 4 (by decide +kernel) (g := res) (fun fr H => by kernel_rfl) (ts := some [[none], [none]]) (by kernel_rfl) fun args r h => by
 unfold spec at h; split at h <;> first | exact ⟨rfl, h⟩ | cases h
end z_aq
end Go.Abs
end
end
section
namespace Go.Abs
open Go.Proofs.Try
namespace z_bs
def K : Nat → List Nat
 | 0 => [0]
 | 1 => [3]
 | 2 => [3, 4]
 | 3 => [3, 4]
 | 4 => [2]
 | 5 => [3, 7]
 | 6 => [7]
 | 7 => [2]
 | 8 => [2]
 | _ => []
theorem z_ad (fr : AFr) (H : Hp) : acode tp C (draws tp C) K (co f69) fr H = body fr H := by kernel_rfl
theorem sound : Sound tp 69 (.pure false spec) := sayP Tab.Sound.none func69 (by kernel_rfl) (by kernel_rfl) (fun a w => call69 a w) z_ad 1 (by decide +kernel) (g := res) (fun fr H => by kernel_rfl) (ts := some [[none]]) (by kernel_rfl) fun args r h => by
 unfold spec at h; split at h <;> first | exact ⟨rfl, h⟩ | cases h
end z_bs
namespace z_cq
def K : Nat → List Nat
 | 0 => [0]
 | 1 => [2]
 | _ => []
theorem z_ad (fr : AFr) (H : Hp) : acode tp C (draws tp C) K (co f70) fr H = body fr H := by kernel_rfl
theorem sound : Sound tp 70 (.pure false spec) := sayP Tab.Sound.none func70 (by kernel_rfl) (by kernel_rfl) (fun a w => call70 a w) z_ad 1 (by decide +kernel) (g := res) (fun fr H => by kernel_rfl) (ts := some [[none]]) (by kernel_rfl) fun args r h => by
 unfold spec at h; split at h <;> first | exact ⟨rfl, h⟩ | cases h
end z_cq
namespace z_a0
def K : Nat → List Nat
 | 0 => [0, 1]
 | 1 => [3]
 | _ => []
theorem z_ad (fr : AFr) (H : Hp) : acode tp C (draws tp C) K (co f140) fr H = body fr H := by kernel_rfl
theorem sound : Sound tp 140 (.ref [false] spec) := sayT Tab.Sound.none func140 (by kernel_rfl) (by kernel_rfl) (fun a w => call140 a w) z_ad 2 (by decide +kernel) (g := res) (fun fr H => by kernel_rfl) fun args H r h => by
 unfold spec at h; split at h <;> first | exact ⟨rfl, h⟩ | cases h
end z_a0
namespace z_cc
def K : Nat → List Nat
 | 0 => [0]
 | 1 => [2]
 | _ => []
theorem z_ad (s0 : SpecP) (fr : AFr) (H : Hp) : acode tp (C s0) (draws tp (C s0)) K (co f80) fr H = body s0 fr H := by kernel_rfl
theorem sound : Sound tp 80 (.pure false spec) := sayP (Tab.Sound.none.add z_cq.sound) func80 (by kernel_rfl) (by kernel_rfl) (fun a w => call80 a w) (z_ad z_cq.spec) 1 (by decide +kernel) (g := res) (fun fr H => by kernel_rfl) (ts := some [[none]]) (by kernel_rfl) fun args r h => by
 unfold spec at h; split at h <;> first | exact ⟨rfl, h⟩ | cases h
end z_cc
namespace z_cb
def K : Nat → List Nat
 | 0 => [0]
 | 1 => [2]
 | _ => []
theorem z_ad (s0 : SpecP) (fr : AFr) (H : Hp) : acode tp (C s0) (draws tp (C s0)) K (co f72) fr H = body s0 fr H := by kernel_rfl
theorem sound : Sound tp 72 (.pure false spec) := sayP (Tab.Sound.none.add z_cq.sound) func72 (by kernel_rfl) (by kernel_rfl) (fun a w => call72 a w) (z_ad z_cq.spec) 1 (by decide +kernel) (g := res) (fun fr H => by kernel_rfl) (ts := some [[none]]) (by kernel_rfl) fun args r h => by
 unfold spec at h; split at h <;> first | exact ⟨rfl, h⟩ | cases h
end z_cb
namespace z_an
def K : Nat → List Nat
 | 0 => [0, 1]
 | 1 => [0, 1, 7, 8]
 | 2 => [0, 1, 7, 8, 9]
 | 3 => [0, 1, 5, 7, 8]
 | 4 => [0, 1, 5, 7, 8, 16]
 | 5 => [4]
 | 6 => [0, 1, 7, 8]
 | 7 => [4]
 | _ => []
theorem z_ad (s0 s1 : SpecP) (s2 : SpecM) (fr : AFr) (H : Hp) : acode tp (C s0 s1 s2) (draws tp (C s0 s1 s2)) K (co f114) fr H = body s0 s1 s2 fr H := by kernel_rfl
theorem sound : Sound tp 114 (.ref [true, false] spec) := sayT (((Tab.Sound.none.add z_cb.sound).add z_cc.sound).add z_a0.sound) func114 (by kernel_rfl) (by kernel_rfl) (fun a w => call114 a w) (z_ad z_cb.spec z_cc.spec z_a0.spec) 2 (by decide +kernel) (g := res) (fun fr H => by kernel_rfl) fun args H r h => by
 unfold spec at h; split at h <;> first | exact ⟨rfl, h⟩ | cases h
end z_an
namespace z_ak
def K : Nat → List Nat
 | 0 => [0, 1]
 | 1 => [4]
 | _ => []
theorem z_ad (s0 : SpecM) (fr : AFr) (H : Hp) : acode tp (C s0) (draws tp (C s0)) K (co f71) fr H = body s0 fr H := by kernel_rfl
theorem sound : Sound tp 71 (.ref [true, false] spec) := sayT (Tab.Sound.none.add z_an.sound) func71 (by kernel_rfl) (by kernel_rfl) (fun a w => call71 a w) (z_ad z_an.spec) 2 (by decide +kernel) (g := res) (fun fr H => by kernel_rfl) fun args H r h => by
 unfold spec at h; split at h <;> first | exact ⟨rfl, h⟩ | cases h
end z_ak
namespace z_cp
def K : Nat → List Nat
 | 0 => [0, 1, 4]
 | 1 => [4]
 | _ => []
theorem z_ad (fr : AFr) (H : Hp) : acode tp C (draws tp C) K (co f78) fr H = body fr H := by kernel_rfl
theorem sound : Sound tp 78 (.pure false spec) := sayP Tab.Sound.none func78 (by kernel_rfl) (by kernel_rfl) (fun a w => call78 a w) z_ad 2 (by decide +kernel) (g := res) (fun fr H => by kernel_rfl) (ts := some [[none, none, none, none, none]]) (by kernel_rfl) fun args r h => by
 unfold spec at h; split at h <;> first | exact ⟨rfl, h⟩ | cases h
end z_cp
namespace z_cm
def K : Nat → List Nat
 | 0 => [0, 1, 4]
 | 1 => [4]
 | _ => []
theorem z_ad (fr : AFr) (H : Hp) : acode tp C (draws tp C) K (co f79) fr H = body fr H := by kernel_rfl
theorem sound : Sound tp 79 (.pure false spec) := sayP Tab.Sound.none func79 (by kernel_rfl) (by kernel_rfl) (fun a w => call79 a w) z_ad 2 (by decide +kernel) (g := res) (fun fr H => by kernel_rfl) (ts := some [[none, none, none, none, none]]) (by kernel_rfl) fun args r h => by
 unfold spec at h; split at h <;> first | exact ⟨rfl, h⟩ | cases h
end z_cm
namespace z_dp
def K : Nat → List Nat
 | 0 => [0, 1, 4]
 | 1 => [4]
 | _ => []
theorem z_ad (fr : AFr) (H : Hp) : acode tp C (draws tp C) K (co f121) fr H = body fr H := by kernel_rfl
theorem sound : Sound tp 121 (.pure false spec) := sayP Tab.Sound.none func121 (by kernel_rfl) (by kernel_rfl) (fun a w => call121 a w) z_ad 2 (by decide +kernel) (g := res) (fun fr H => by kernel_rfl) (ts := some [[none, none, none, none, none]]) (by kernel_rfl) fun args r h => by
 unfold spec at h; split at h <;> first | exact ⟨rfl, h⟩ | cases h
end z_dp
namespace z_ci
def K : Nat → List Nat
 | 0 => [0]
 | 1 => [0]
 | 2 => [0, 6]
 | 3 => [2]
 | 4 => [2]
 | _ => []
theorem z_ad (s0 s1 s2 : SpecP) (fr : AFr) (H : Hp) : acode tp (C s0 s1 s2) (draws tp (C s0 s1 s2)) K (co f77) fr H = body s0 s1 s2 fr H := by kernel_rfl
theorem sound : Sound tp 77 (.ref [false] spec) := sayR (((Tab.Sound.none.add z_cp.sound).add z_cm.sound).add z_dp.sound) func77 (by kernel_rfl) (by kernel_rfl) (fun a w => call77 a w) (z_ad z_cp.spec z_cm.spec z_dp.spec) 1 (by decide +kernel) (g := res) (fun fr H => by kernel_rfl) fun args H r h => by
 unfold spec at h; split at h <;> first | exact ⟨rfl, h⟩ | cases h
end z_ci
namespace z_eb
def K : Nat → List Nat
 | 0 => [0, 1]
 | 1 => [4]
 | _ => []
theorem z_ad (s0 : SpecM) (fr : AFr) (H : Hp) : acode tp (C s0) (draws tp (C s0)) K (co f115) fr H = body s0 fr H := by kernel_rfl
theorem sound : Sound tp 115 (.pure false spec) := sayP (Tab.Sound.none.add z_ci.sound) func115 (by kernel_rfl) (by kernel_rfl) (fun a w => call115 a w) (z_ad z_ci.spec) 2 (by decide +kernel) (g := res) (fun fr H => by kernel_rfl) (ts := some [[some 5]]) (by kernel_rfl) fun args r h => by
 unfold spec at h; split at h <;> first | exact ⟨rfl, h⟩ | cases h
end z_eb
namespace z_ec
def K : Nat → List Nat
 | 0 => [0, 1, 2, 6]
 | 1 => [6]
 | _ => []
theorem z_ad (fr : AFr) (H : Hp) : acode tp C (draws tp C) K (co f159) fr H = body fr H := by kernel_rfl
theorem sound : Sound tp 159 (.pure false spec) := sayP Tab.Sound.none func159 (by kernel_rfl) (by kernel_rfl) (fun a w => call159 a w) z_ad 3 (by decide +kernel) (g := res) (fun fr H => by kernel_rfl) (ts := some [[none, none, none, none, none]]) (by kernel_rfl) fun args r h => by
 unfold spec at h; split at h <;> first | exact ⟨rfl, h⟩ | cases h
end z_ec
namespace z_bn
def K : Nat → List Nat
 | 0 => [0]
 | 1 => [0, 3]
 | 2 => [0, 3, 4]
 | 3 => [0, 3, 4, 7]
 | 5 => [0, 3, 4, 5]
 | 6 => [0, 3, 4, 5, 15]
 | 7 => [0, 3, 4]
 | 8 => [0, 3, 4, 5, 25]
 | 9 => [0, 3, 4]
 | 4 => [0, 3, 4]
 | 10 => [2]
 | _ => []
theorem z_ad (s0 s1 s2 : SpecP) (fr : AFr) (H : Hp) : acode tp (C s0 s1 s2) (draws tp (C s0 s1 s2)) K (co f160) fr H = body s0 s1 s2 fr H := by kernel_rfl
theorem sound : Sound tp 160 (.pure false spec) := sayP (((Tab.Sound.none.add z_cm.sound).add z_dp.sound).add z_cp.sound) func160 (by kernel_rfl) (by kernel_rfl) (fun a w => call160 a w) (z_ad z_cm.spec z_dp.spec z_cp.spec) 1 (by decide +kernel) (g := res) (fun fr H => by kernel_rfl) (ts := some [[some 5]]) (by kernel_rfl) fun args r h => by
 unfold spec at h; split at h <;> first | exact ⟨rfl, h⟩ | cases h
end z_bn
namespace z_bq
def K : Nat → List Nat
 | 0 => [1]
 | 1 => [1, 4]
 | 2 => [1, 4, 5]
 | 3 => [2]
 | 4 => [1, 4, 9]
 | 5 => [2]
 | 6 => [1, 4, 13]
 | 7 => [2]
 | 8 => [1, 4, 17]
 | 9 => [2]
 | 10 => [1, 4, 24]
 | 11 => [1, 28]
 | 12 => [2]
 | 13 => [2]
 | 14 => [1, 4, 36]
 | 15 => [2]
 | 16 => [1, 4, 46]
 | 17 => [2]
 | 18 => [51]
 | 19 => [2]
 | 20 => [2]
 | _ => []
theorem z_ad (s0 s1 s2 s3 : SpecP) (fr : AFr) (H : Hp) : acode tp (C s0 s1 s2 s3) (draws tp (C s0 s1 s2 s3)) K (co f117) fr H = body s0 s1 s2 s3 fr H := by kernel_rfl
theorem sound : Sound tp 117 (.pure false spec) := sayP ((((Tab.Sound.none.add z_ec.sound).add z_cm.sound).add z_cp.sound).add z_bn.sound) func117 (by kernel_rfl) (by kernel_rfl) (fun a w => call117 a w) (z_ad z_ec.spec z_cm.spec z_cp.spec z_bn.spec) 1 (by decide +kernel) (g := res) (fun fr H => by kernel_rfl) (ts := some [[some 5]]) (by kernel_rfl) fun args r h => by
 unfold spec at h; split at h <;> first | exact ⟨rfl, h⟩ | cases h
end z_bq
namespace z_ea
def K : Nat → List Nat
 | 0 => [0]
 | 1 => [2]
 | _ => []
theorem z_ad (s0 : SpecM) (fr : AFr) (H : Hp) : acode tp (C s0) (draws tp (C s0)) K (co f118) fr H = body s0 fr H := by kernel_rfl
theorem sound : Sound tp 118 (.pure false spec) := sayP (Tab.Sound.none.add z_ci.sound) func118 (by kernel_rfl) (by kernel_rfl) (fun a w => call118 a w) (z_ad z_ci.spec) 1 (by decide +kernel) (g := res) (fun fr H => by kernel_rfl) (ts := some [[some 5]]) (by kernel_rfl) fun args r h => by
 unfold spec at h; split at h <;> first | exact ⟨rfl, h⟩ | cases h
end z_ea
namespace z_at
def K : Nat → List Nat
 | 0 => [0, 1]
 | 1 => [0, 1, 6]
 | 2 => [0, 1]
 | 3 => [0, 1]
 | 4 => [0, 1, 16]
 | 5 => [0]
 | 6 => [4]
 | _ => []
theorem z_ad (fr : AFr) (H : Hp) : acode tp C (draws tp C) K (co f158) fr H = body fr H := by kernel_rfl
theorem sound : Sound tp 158 (.ref [false, false] spec) := sayR Tab.Sound.none func158 (by kernel_rfl) (by kernel_rfl) (fun a w => call158 a w) z_ad 2 (by decide +kernel) (g := res) (fun fr H => by kernel_rfl) fun args H r h => by
 unfold spec at h; split at h <;> first | exact ⟨rfl, h⟩ | cases h
end z_at
namespace z_aj
def K : Nat → List Nat
 | 0 => [0]
 | 1 => [0, 3]
 | 2 => [0, 3, 9, 10, 11]
 | 3 => [0, 3, 9, 10, 11, 12]
 | 4 => [0, 3, 5, 9, 10, 11]
 | 5 => [0, 3, 9, 10, 11]
 | 6 => [0, 3, 9, 10, 11, 20]
 | 7 => [0, 3, 9, 10, 11]
 | 8 => [0, 3, 9, 10, 11]
 | 9 => [0, 6]
 | 10 => [6, 25, 26, 27]
 | 11 => [6, 25, 26, 27, 28]
 | 12 => [6, 8, 25, 26, 27]
 | 13 => [6, 25, 26, 27]
 | 14 => [6, 25, 26, 27]
 | 15 => [2]
 | _ => []
theorem z_ad (s0 : SpecM) (fr : AFr) (H : Hp) : acode tp (C s0) (draws tp (C s0)) K (co f116) fr H = body s0 fr H := by kernel_rfl
theorem sound : Sound tp 116 (.ref [false] spec) := sayR (Tab.Sound.none.add z_at.sound) func116 (by kernel_rfl) (by kernel_rfl) (fun a w => call116 a w) (z_ad z_at.spec) 1 (by decide +kernel) (g := res) (fun fr H => by kernel_rfl) fun args H r h => by
 unfold spec at h; split at h <;> first | exact ⟨rfl, h⟩ | cases h
end z_aj
namespace z_ck
def K : Nat → List Nat
 | 0 => [1, 2, 3]
 | 1 => [1, 2, 3, 7]
 | 2 => [1, 2, 3, 7, 14]
 | 3 => [1, 2, 3, 7]
 | 4 => [1, 3, 7, 19, 20, 21]
 | 5 => [1, 3, 7, 19, 20, 21, 22]
 | 6 => [1, 3, 7, 8, 9, 19, 20, 21]
 | 7 => [1, 3, 7, 19, 20, 21]
 | 8 => [1, 3, 7, 19, 20, 21]
 | 9 => [6]
 | _ => []
theorem z_ad (s0 s1 s2 s3 : SpecP) (s4 : SpecM) (fr : AFr) (H : Hp) : acode tp (C s0 s1 s2 s3 s4) (draws tp (C s0 s1 s2 s3 s4)) K (co f73) fr H = body s0 s1 s2 s3 s4 fr H := by kernel_rfl
theorem sound : Sound tp 73 (.pure false spec) := sayP (((((Tab.Sound.none.add z_cp.sound).add z_eb.sound).add z_bq.sound).add z_ea.sound).add z_aj.sound) func73 (by kernel_rfl) (by kernel_rfl) (fun a w => call73 a w) (z_ad z_cp.spec z_eb.spec z_bq.spec z_ea.spec z_aj.spec) 3 (by decide +kernel) (g := res) (fun fr H => by kernel_rfl) (ts := some [[some 5]]) (by kernel_rfl) fun args r h => by
 unfold spec at h; split at h <;> first | exact ⟨rfl, h⟩ | cases h
end z_ck
namespace z_cy
def K : Nat → List Nat
 | 0 => [1, 2, 3]
 | 1 => [1, 2, 3]
 | 2 => [1, 2, 3, 7]
 | 3 => [1, 2, 3, 32]
 | 4 => [6]
 | 5 => [6]
 | _ => []
theorem z_ad (s0 s1 s2 : SpecP) (s3 : SpecM) (s4 : SpecP) (fr : AFr) (H : Hp) : acode tp (C s0 s1 s2 s3 s4) (draws tp (C s0 s1 s2 s3 s4)) K (co f22) fr H = body s0 s1 s2 s3 s4 fr H := by kernel_rfl
theorem sound : Sound tp 22 (.pure false spec) := sayP (((((Tab.Sound.none.add z_d9.sound).add z_bs.sound).add z_cq.sound).add z_ak.sound).add z_ck.sound) func22 (by kernel_rfl) (by kernel_rfl) (fun a w => call22 a w) (z_ad z_d9.spec z_bs.spec z_cq.spec z_ak.spec z_ck.spec) 3 (by decide +kernel) (g := res) (fun fr H => by kernel_rfl) (ts := some [[some 5]]) (by kernel_rfl) fun args r h => by
 unfold spec at h; split at h <;> first | exact ⟨rfl, h⟩ | cases h
end z_cy
namespace z_da
def K : Nat → List Nat
 | 0 => []
 | 1 => [0]
 | _ => []
theorem z_ad (s0 s1 : SpecP) (fr : AFr) (H : Hp) : acode tp (C s0 s1) (draws tp (C s0 s1)) K (co f29) fr H = body s0 s1 fr H := by kernel_rfl
theorem sound : Sound tp 29 (.pure false spec) := sayP ((Tab.Sound.none.add z_cp.sound).add z_cm.sound) func29 (by kernel_rfl) (by kernel_rfl) (fun a w => call29 a w) (z_ad z_cp.spec z_cm.spec) 0 (by decide +kernel) (g := res) (fun fr H => by kernel_rfl) (ts := some [[some 5]]) (by kernel_rfl) fun args r h => by
 unfold spec at h; split at h <;> first | exact ⟨rfl, h⟩ | cases h
end z_da
namespace z_a8
def K : Nat → List Nat
 | 0 => [0, 1]
 | 1 => [0, 9, 10, 11]
 | 2 => [0, 9, 10, 11, 12]
 | 3 => [0, 6, 9, 10, 11]
 | 4 => [0, 7, 9, 10, 11]
 | 5 => [0, 9, 10, 11]
 | 6 => [0, 9, 10, 11]
 | 7 => [4]
 | _ => []
theorem z_ad (s0 : SpecP) (fr : AFr) (H : Hp) : acode tp (C s0) (draws tp (C s0)) K (co f81) fr H = body s0 fr H := by kernel_rfl
theorem sound : Sound tp 81 (.ref [false, false] spec) := sayR (Tab.Sound.none.add z_dd.sound) func81 (by kernel_rfl) (by kernel_rfl) (fun a w => call81 a w) (z_ad z_dd.spec) 2 (by decide +kernel) (g := res) (fun fr H => by kernel_rfl) fun args H r h => by
 unfold spec at h; split at h <;> first | exact ⟨rfl, h⟩ | cases h
end z_a8
namespace z_cd
def K : Nat → List Nat
 | 0 => [1, 2]
 | 1 => [1, 2, 29]
 | 2 => [4, 5]
 | 3 => [1, 2, 6]
 | 4 => [1, 2, 6, 33, 34, 35]
 | 5 => [1, 2, 6, 33, 34, 35, 36]
 | 6 => [1, 2, 6, 7, 8, 33, 34, 35]
 | 7 => [1, 2, 6, 7, 8, 9, 33, 34, 35]
 | 8 => [1, 2, 6, 7, 8, 9, 33, 34, 35, 44, 45]
 | 9 => [1, 2, 6, 7, 8, 9, 33, 34, 35, 44, 45, 46]
 | 10 => [1, 2, 6, 7, 8, 9, 10, 11, 33, 34, 35, 44, 45]
 | 11 => [1, 2, 6, 7, 8, 9, 11, 33, 34, 35, 44, 45, 53]
 | 12 => [1, 2, 6, 7, 8, 9, 33, 34, 35, 44, 45]
 | 13 => [1, 2, 6, 7, 8, 9, 33, 34, 35, 44, 45]
 | 14 => [1, 2, 6, 33, 34, 35]
 | 15 => [1, 2, 6, 33, 34, 35, 76]
 | 16 => [4, 5]
 | 17 => [1, 2, 6, 33, 34, 35]
 | 18 => [4, 5]
 | _ => []
theorem z_ad (s0 : SpecP) (s1 : SpecM) (s2 : SpecP) (s3 : SpecM) (s4 s5 : SpecP) (fr : AFr) (H : Hp) : acode tp (C s0 s1 s2 s3 s4 s5) (draws tp (C s0 s1 s2 s3 s4 s5)) K (co f32) fr H = body s0 s1 s2 s3 s4 s5 fr H := by kernel_rfl
theorem sound : Sound tp 32 (.pure false spec) := sayP ((((((Tab.Sound.none.add z_d9.sound).add z_ak.sound).add z_da.sound).add z_a8.sound).add z_bs.sound).add z_ck.sound) func32 (by kernel_rfl) (by kernel_rfl) (fun a w => call32 a w) (z_ad z_d9.spec z_ak.spec z_da.spec z_a8.spec z_bs.spec z_ck.spec) 2 (by decide +kernel) (g := res) (fun fr H => by kernel_rfl) (ts := some [[some 1], [none]]) (by kernel_rfl) fun args r h => by
 unfold spec at h; split at h <;> first | exact ⟨rfl, h⟩ | cases h
end z_cd
end Go.Abs
end
section
namespace Go.Abs
open Go.Proofs.Try
namespace z_ds
def K : Nat → List Nat
 | 0 => [1, 2]
 | 1 => [2]
 | _ => []
theorem z_ad (fr : AFr) (H : Hp) : acode tp C (draws tp C) K (co f33) fr H = body fr H := by kernel_rfl
theorem sound : Sound tp 33 (.pure false spec) := sayP Tab.Sound.none func33 (by kernel_rfl) (by kernel_rfl) (fun a w => call33 a w) z_ad 1 (by decide +kernel) (g := res) (fun fr H => by kernel_rfl) (ts := some [[none, some 4, some 1]]) (by kernel_rfl) fun args r h => by
 unfold spec at h; split at h <;> first | exact ⟨rfl, h⟩ | cases h
end z_ds
namespace z_bv
def K : Nat → List Nat
 | 0 => [1]
 | 1 => [1, 3]
 | 2 => [1, 3, 4]
 | 3 => [1, 3, 4, 9]
 | 5 => [1, 3, 4, 18]
 | 6 => [1, 3, 4]
 | 4 => [1, 3, 4]
 | 7 => [2]
 | _ => []
theorem z_ad (fr : AFr) (H : Hp) : acode tp C (draws tp C) K (co f39) fr H = body fr H := by kernel_rfl
theorem sound : Sound tp 39 (.pure false spec) := sayP Tab.Sound.none func39 (by kernel_rfl) (by kernel_rfl) (fun a w => call39 a w) z_ad 1 (by decide +kernel) (g := res) (fun fr H => by kernel_rfl) (ts := some [[none]]) (by kernel_rfl) fun args r h => by
 unfold spec at h; split at h <;> first | exact ⟨rfl, h⟩ | cases h
end z_bv
namespace z_a4
def K : Nat → List Nat
 | 0 => [0]
 | 1 => [0, 8]
 | 2 => [2]
 | 3 => [18]
 | 4 => [2]
 | 5 => [2]
 | _ => []
theorem z_ad (fr : AFr) (H : Hp) : acode tp C (draws tp C) K (co f74) fr H = body fr H := by kernel_rfl
theorem sound : Sound tp 74 (.pure false spec) := sayP Tab.Sound.none func74 (by kernel_rfl) (by kernel_rfl) (fun a w => call74 a w) z_ad 1 (by decide +kernel) (g := res) (fun fr H => by kernel_rfl) (ts := some [[none]]) (by kernel_rfl) fun args r h => by
 unfold spec at h; split at h <;> first | exact ⟨rfl, h⟩ | cases h
end z_a4
namespace z_bg
def K : Nat → List Nat
 | 0 => [1]
 | 1 => [1, 21]
 | 2 => [2]
 | 3 => [1, 3]
 | 4 => [1, 3, 26]
 | 6 => [1, 3, 4]
 | 7 => [1, 3, 4, 5, 6]
 | 8 => [1, 3, 4, 96]
 | 9 => [2]
 | 10 => [1, 3, 124]
 | 11 => [2]
 | 5 => [1, 3]
 | 12 => [1, 7]
 | 13 => [1, 7, 129]
 | 15 => [1, 7, 151]
 | 16 => [2]
 | 14 => [1, 7]
 | 17 => [2]
 | _ => []
theorem z_ad (s0 : SpecP) (fr : AFr) (H : Hp) : acode tp (C s0) (draws tp (C s0)) K (co f82) fr H = body s0 fr H := by kernel_rfl
theorem sound : Sound tp 82 (.pure false spec) := sayP (Tab.Sound.none.add z_a4.sound) func82 (by kernel_rfl) (by kernel_rfl) (fun a w => call82 a w) (z_ad z_a4.spec) 1 (by decide +kernel) (g := res) (fun fr H => by kernel_rfl) (ts := some [[none]]) (by kernel_rfl) fun args r h => by
 unfold spec at h; split at h <;> first | exact ⟨rfl, h⟩ | cases h
end z_bg
end Go.Abs
end
section
namespace Go.Abs
open Go.Proofs.Try
namespace z_cj
noncomputable def code : Code := match f76.body with | some c => c | none => .skip
def K : Nat → List Nat
 | 0 => [0]
 | 1 => [0, 4]
 | 2 => [2]
 | 3 => [0, 10]
 | 4 => [2]
 | 5 => [2]
 | _ => []
noncomputable def CC (k : Nat) : Tab := C (fuel k)
theorem CS (k : Nat) (h : Sound prog 76 (.pure false (fuel k))) : (CC k).Sound prog := (Tab.Sound.none.add h)
theorem z_ad (s0 : SpecP) (fr : AFr) (H : Hp) : acode prog (C s0) (draws prog (C s0)) K code fr H = body s0 fr H := by kernel_rfl
theorem callable : Callable prog 76 := fun args w => call76 args w
theorem hf : prog.funcs[76]? = some f76 := func76
theorem hb : f76.body = some code := by kernel_rfl
theorem hok : z_ek f76.ntmps code = true := by kernel_rfl
theorem run_eq (k : Nat) (a0 : AV) : z_nk prog (CC k) (draws prog (CC k)) K f76 code [a0] = step (fuel k) [a0] := by
 unfold z_nk arun
 rw [if_pos (show [a0].length ≤ f76.ntmps from (by decide +kernel : 1 ≤ f76.ntmps))]
 unfold afin
 rw [show acode prog (CC k) (draws prog (CC k)) K code (args0 [a0]) Hp.empty = body (fuel k) (args0 [a0]) Hp.empty from z_ad (fuel k) _ _]
 kernel_rfl
theorem z_k2 : ∀ k, Sound prog 76 (.pure false (fuel k))
 | 0 => ⟨callable, fun _ _ h => by cases h⟩
 | k + 1 => (z_k1 (CS k (z_k2 k)) Mixed (draws _ _) K hf hb hok callable).less fun args r h => by
  change step (fuel k) args = some r at h
  unfold step at h
  split at h
  ·rw [run_eq]; exact h
  ·cases h
theorem sound : Sound prog 76 (.pure false spec) := z_k2 64
end z_cj
namespace z_c4
def K : Nat → List Nat
 | 0 => [0]
 | 1 => [2]
 | _ => []
theorem z_ad (s0 : SpecP) (fr : AFr) (H : Hp) : acode tp (C s0) (draws tp (C s0)) K (co f119) fr H = body s0 fr H := by kernel_rfl
theorem sound : Sound tp 119 (.pure false spec) := sayP (Tab.Sound.none.add z_cj.sound) func119 (by kernel_rfl) (by kernel_rfl) (fun a w => call119 a w) (z_ad z_cj.spec) 1 (by decide +kernel) (g := res) (fun fr H => by kernel_rfl) (ts := some [[none]]) (by kernel_rfl) fun args r h => by
 unfold spec at h; split at h <;> first | exact ⟨rfl, h⟩ | cases h
end z_c4
namespace z_dt
def K : Nat → List Nat
 | 0 => [0]
 | 1 => [2]
 | _ => []
theorem z_ad (s0 : SpecP) (fr : AFr) (H : Hp) : acode tp (C s0) (draws tp (C s0)) K (co f120) fr H = body s0 fr H := by kernel_rfl
theorem sound : Sound tp 120 (.pure false spec) := sayP (Tab.Sound.none.add z_cj.sound) func120 (by kernel_rfl) (by kernel_rfl) (fun a w => call120 a w) (z_ad z_cj.spec) 1 (by decide +kernel) (g := res) (fun fr H => by kernel_rfl) (ts := some [[none]]) (by kernel_rfl) fun args r h => by
 unfold spec at h; split at h <;> first | exact ⟨rfl, h⟩ | cases h
end z_dt
namespace z_bc
def K : Nat → List Nat
 | 0 => [1]
 | 1 => [1, 8]
 | 2 => [2, 3]
 | 3 => [1, 4]
 | 4 => [1, 4, 5]
 | 5 => [1, 4, 5, 15]
 | 6 => [2, 3]
 | 7 => [1, 4, 5, 28]
 | 8 => [2, 3]
 | 9 => [1, 4, 5, 47]
 | 10 => [2, 3]
 | 11 => [1, 4, 5, 66]
 | 12 => [2, 3]
 | 13 => [1, 4, 5, 85]
 | 14 => [2, 3]
 | 15 => [1, 4, 5, 100]
 | 16 => [2, 3]
 | 17 => [1, 4, 5, 122]
 | 18 => [2, 3]
 | 19 => [1, 4, 5, 143]
 | 20 => [2, 3]
 | 21 => [1, 5, 155]
 | 22 => [2, 3]
 | 23 => [1, 5, 163]
 | 24 => [2, 3]
 | 25 => [1, 177]
 | 26 => [2, 3]
 | 27 => [2, 3]
 | _ => []
theorem z_ad (s0 s1 s2 : SpecP) (fr : AFr) (H : Hp) : acode tp (C s0 s1 s2) (draws tp (C s0 s1 s2)) K (co f75) fr H = body s0 s1 s2 fr H := by kernel_rfl
theorem sound : Sound tp 75 (.pure false spec) := sayP (((Tab.Sound.none.add z_ah.sound).add z_c4.sound).add z_dt.sound) func75 (by kernel_rfl) (by kernel_rfl) (fun a w => call75 a w) (z_ad z_ah.spec z_c4.spec z_dt.spec) 1 (by decide +kernel) (g := res) (fun fr H => by kernel_rfl) (ts := some [[none], [none]]) (by kernel_rfl) fun args r h => by
 unfold spec at h; split at h <;> first | exact ⟨rfl, h⟩ | cases h
end z_bc
end Go.Abs
end
section
namespace Go.Abs
open Go.Proofs.Try
namespace z_cv
def K : Nat → List Nat
 | 0 => [0, 1]
 | 1 => [0, 1, 12]
 | 2 => [4]
 | 3 => [0, 1, 5]
 | 4 => [0, 1, 5, 16]
 | 6 => [0, 1, 5, 6, 7]
 | 7 => [0, 1, 5, 36]
 | 8 => [4]
 | 5 => [0, 1, 5]
 | 9 => [4]
 | _ => []
theorem z_ad (s0 : SpecP) (fr : AFr) (H : Hp) : acode tp (C s0) (draws tp (C s0)) K (co f25) fr H = body s0 fr H := by kernel_rfl
theorem sound : Sound tp 25 (.pure false spec) := sayP (Tab.Sound.none.add z_bc.sound) func25 (by kernel_rfl) (by kernel_rfl) (fun a w => call25 a w) (z_ad z_bc.spec) 2 (by decide +kernel) (g := res) (fun fr H => by kernel_rfl) (ts := some [[none]]) (by kernel_rfl) fun args r h => by
 unfold spec at h; split at h <;> first | exact ⟨rfl, h⟩ | cases h
end z_cv
end Go.Abs
end
