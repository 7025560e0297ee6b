/-
  The numbers of the element types.
-/
import Derived.Test.YteohnepdbjmghaaZ2
set_option linter.unusedSimpArgs false
set_option linter.unusedVariables false
set_option maxHeartbeats 20000000
set_option maxRecDepth 100000
section
namespace Go.Abs.T
def ty_2_sl_uint32 : TypeId := 74
def ty_api_Code : TypeId := 52
def ty_api_Ins : TypeId := 23
def ty_api_Leak : TypeId := 136
def ty_api_Op : TypeId := 38
def ty_api_Outcome : TypeId := 69
def ty_api_State : TypeId := 80
def ty_bautaref05_Mem : TypeId := 134
def ty_bool : TypeId := 4
def ty_int : TypeId := 3
def ty_mem_Mem : TypeId := 152
def ty_sl_api_Ins : TypeId := 39
def ty_string : TypeId := 9
def ty_thumb_part : TypeId := 112
def ty_thumb_shape : TypeId := 115
def ty_uint16 : TypeId := 31
def ty_uint32 : TypeId := 36
end Go.Abs.T
end
section
namespace Go.Abs
noncomputable section
namespace z_bb
def C : Tab := Tab.none
@[simp] def r0 (fr : AFr) (H : Hp) : ARes :=
 areg (e' [(0, fr 0)] H)
@[simp] def r1 (fr : AFr) (H : Hp) : ARes :=
 areg (e' [(3, (fr 0))] H)
@[simp] def r2 (fr : AFr) (H : Hp) : ARes :=
 areg (q' (bn' .eql (fr 3) (.int .i64 1)) H ⟨fun v5 H =>
 e' [(3, fr 3), (4, v5)] H⟩)
@[simp] def r3 (fr : AFr) (H : Hp) : ARes :=
 areg (q' (bn' .eql (fr 3) (.int .i64 2)) H ⟨fun v6 H =>
 e' [(3, fr 3), (4, v6)] H⟩)
@[simp] def r4 (fr : AFr) (H : Hp) : ARes :=
 areg (e' [(2, (.int .i64 2))] H)
@[simp] def r5 (fr : AFr) (H : Hp) : ARes :=
 areg (q' (bn' .eql (fr 3) (.int .i64 3)) H ⟨fun v8 H =>
 e' [(3, fr 3), (7, v8)] H⟩)
@[simp] def r6 (fr : AFr) (H : Hp) : ARes :=
 areg (q' (bn' .eql (fr 3) (.int .i64 4)) H ⟨fun v9 H =>
 e' [(3, fr 3), (7, v9)] H⟩)
@[simp] def r7 (fr : AFr) (H : Hp) : ARes :=
 areg (q' (bn' .eql (fr 3) (.int .i64 5)) H ⟨fun v10 H =>
 e' [(3, fr 3), (7, v10)] H⟩)
@[simp] def r8 (fr : AFr) (H : Hp) : ARes :=
 areg (q' (bn' .eql (fr 3) (.int .i64 6)) H ⟨fun v11 H =>
 e' [(3, fr 3), (7, v11)] H⟩)
@[simp] def r9 (fr : AFr) (H : Hp) : ARes :=
 areg (q' (bn' .eql (fr 3) (.int .i64 8)) H ⟨fun v12 H =>
 e' [(7, v12)] H⟩)
@[simp] def r10 (fr : AFr) (H : Hp) : ARes :=
 areg (e' [(2, (.int .i64 1))] H)
@[simp] def r11 (fr : AFr) (H : Hp) : ARes :=
 areg (e' [(2, (.int .i64 0))] H)
@[simp] def body (fr : AFr) (H : Hp) : ARes :=
 s' (r0 fr H) ⟨fun fr H =>
 s' (s' (r1 fr H) ⟨fun fr H =>
 aexit 0 (s' (s' (r2 fr H) ⟨fun fr H =>
 c' (fr 4)
 ⟨some (.normal, fr, H)⟩
 ⟨r3 fr H⟩⟩) ⟨fun fr H =>
 c' (fr 4)
 ⟨s' (r4 fr H) ⟨fun fr H =>
 some (.ret, fr, H)⟩⟩
 ⟨s' (s' (r5 fr H) ⟨fun fr H =>
 c' (fr 7)
 ⟨some (.normal, fr, H)⟩
 ⟨s' (r6 fr H) ⟨fun fr H =>
 c' (fr 7)
 ⟨some (.normal, fr, H)⟩
 ⟨s' (r7 fr H) ⟨fun fr H =>
 c' (fr 7)
 ⟨some (.normal, fr, H)⟩
 ⟨s' (r8 fr H) ⟨fun fr H =>
 c' (fr 7)
 ⟨some (.normal, fr, H)⟩
 ⟨r9 fr H⟩⟩⟩⟩⟩⟩⟩⟩) ⟨fun fr H =>
 c' (fr 7)
 ⟨s' (r10 fr H) ⟨fun fr H =>
 some (.ret, fr, H)⟩⟩
 ⟨some (.normal, fr, H)⟩⟩⟩⟩)⟩) ⟨fun fr H =>
 s' (r11 fr H) ⟨fun fr H =>
 some (.ret, fr, H)⟩⟩⟩
@[simp] def res (fr : AFr) (H : Hp) : Option (List AV) := res2 (some (fr 2)) (some [])
end z_bb
def z_bb (a0 : AV) : Option AV := z_ap (some [[none]]) (afinR z_bb.res (z_bb.body (args0 [a0]) Hp.empty))
def z_bb.spec : List AV → Option AV
 | [a0] => z_bb a0
 | _ => none
namespace z_bd
def C : Tab := Tab.none
@[simp] def r0 (fr : AFr) (H : Hp) : ARes :=
 areg (o' (abox T.ty_api_Op (fr 0) H) ⟨fun v1 H =>
 e' [(1, v1)] H⟩)
@[simp] def r1 (fr : AFr) (H : Hp) : ARes :=
 areg (q' (fa' 0 (fr 1)) H ⟨fun v3 H =>
 q' (ld' v3 H) H ⟨fun v4 H =>
 e' [(1, fr 1), (4, v4)] H⟩⟩)
@[simp] def r2 (fr : AFr) (H : Hp) : ARes :=
 areg (q' (bn' .eql (fr 4) (.int .i64 7)) H ⟨fun v6 H =>
 e' [(1, fr 1), (4, fr 4), (5, v6)] H⟩)
@[simp] def r3 (fr : AFr) (H : Hp) : ARes :=
 areg (e' [(2, (.bool true))] H)
@[simp] def r4 (fr : AFr) (H : Hp) : ARes :=
 areg (q' (bn' .eql (fr 4) (.int .i64 4)) H ⟨fun v8 H =>
 e' [(1, fr 1), (4, fr 4), (7, v8)] H⟩)
@[simp] def r5 (fr : AFr) (H : Hp) : ARes :=
 areg (q' (bn' .eql (fr 4) (.int .i64 5)) H ⟨fun v9 H =>
 e' [(1, fr 1), (4, fr 4), (7, v9)] H⟩)
@[simp] def r6 (fr : AFr) (H : Hp) : ARes :=
 areg (q' (bn' .eql (fr 4) (.int .i64 6)) H ⟨fun v10 H =>
 e' [(1, fr 1), (7, v10)] H⟩)
@[simp] def r7 (fr : AFr) (H : Hp) : ARes :=
 areg (q' (fa' 3 (fr 1)) H ⟨fun v11 H =>
 q' (ld' v11 H) H ⟨fun v12 H =>
 q' (bn' .lss v12 (W32 32#32)) H ⟨fun v13 H =>
 e' [(2, v13)] H⟩⟩⟩)
@[simp] def r8 (fr : AFr) (H : Hp) : ARes :=
 areg (q' (fa' 3 (fr 1)) H ⟨fun v14 H =>
 q' (ld' v14 H) H ⟨fun v15 H =>
 q' (bn' .eql v15 (W32 0#32)) H ⟨fun v16 H =>
 e' [(2, v16)] H⟩⟩⟩)
@[simp] def body (fr : AFr) (H : Hp) : ARes :=
 s' (r0 fr H) ⟨fun fr H =>
 s' (s' (r1 fr H) ⟨fun fr H =>
 aexit 0 (s' (r2 fr H) ⟨fun fr H =>
 c' (fr 5)
 ⟨s' (r3 fr H) ⟨fun fr H =>
 some (.ret, fr, H)⟩⟩
 ⟨s' (s' (r4 fr H) ⟨fun fr H =>
 c' (fr 7)
 ⟨some (.normal, fr, H)⟩
 ⟨s' (r5 fr H) ⟨fun fr H =>
 c' (fr 7)
 ⟨some (.normal, fr, H)⟩
 ⟨r6 fr H⟩⟩⟩⟩) ⟨fun fr H =>
 c' (fr 7)
 ⟨s' (r7 fr H) ⟨fun fr H =>
 some (.ret, fr, H)⟩⟩
 ⟨some (.normal, fr, H)⟩⟩⟩⟩)⟩) ⟨fun fr H =>
 s' (r8 fr H) ⟨fun fr H =>
 some (.ret, fr, H)⟩⟩⟩
@[simp] def res (fr : AFr) (H : Hp) : Option (List AV) := res2 (some (fr 2)) (some [])
end z_bd
def z_bd (a0 : AV) : Option AV := z_ap (some [[none]]) (afinR z_bd.res (z_bd.body (args0 [a0]) Hp.empty))
def z_bd.spec : List AV → Option AV
 | [a0] => z_bd a0
 | _ => none
namespace z_cl
def C : Tab := Tab.none
@[simp] def r0 (fr : AFr) (H : Hp) : ARes :=
 areg (e' [(0, fr 0), (1, fr 1), (2, fr 2)] H)
@[simp] def r1 (fr : AFr) (H : Hp) : ARes :=
 areg (q' (aun .not (fr 2)) H ⟨fun v8 H =>
 e' [(0, fr 0), (1, fr 1), (8, v8)] H⟩)
@[simp] def r2 (fr : AFr) (H : Hp) : ARes :=
 areg (q' (bn' .eql (fr 0) (.int .i64 0)) H ⟨fun v10 H =>
 e' [(6, v10)] H⟩)
@[simp] def r3 (fr : AFr) (H : Hp) : ARes :=
 areg (q' (bn' .geq (fr 0) (.int .i64 0)) H ⟨fun v12 H =>
 G' v12 true ⟨some (fr 0)⟩ H ⟨fun v14 H =>
 G' v12 true ⟨some (fr 1)⟩ H ⟨fun v15 H =>
 G' v12 true ⟨bn' .lss v14 v15⟩ H ⟨fun v16 H =>
 q' (apick v12 v16 (.bool false)) H ⟨fun v17 H =>
 e' [(6, v17)] H⟩⟩⟩⟩⟩)
@[simp] def body (fr : AFr) (H : Hp) : ARes :=
 s' (r0 fr H) ⟨fun fr H =>
 s' (s' (r1 fr H) ⟨fun fr H =>
 c' (fr 8)
 ⟨s' (r2 fr H) ⟨fun fr H =>
 some (.ret, fr, H)⟩⟩
 ⟨some (.normal, fr, H)⟩⟩) ⟨fun fr H =>
 s' (r3 fr H) ⟨fun fr H =>
 some (.ret, fr, H)⟩⟩⟩
@[simp] def res (fr : AFr) (H : Hp) : Option (List AV) := res2 (some (fr 6)) (some [])
end z_cl
def z_cl (a0 a1 a2 : AV) : Option AV := z_ap (some [[none]]) (afinR z_cl.res (z_cl.body (args0 [a0, a1, a2]) Hp.empty))
def z_cl.spec : List AV → Option AV
 | [a0, a1, a2] => z_cl a0 a1 a2
 | _ => none
namespace z_b2
def C (s0 s1 s2 : SpecP) : Tab := (((Tab.none.add 155 (.pure false s0)).add 156 (.pure false s1)).add 157 (.pure false s2))
@[simp] def r0 (fr : AFr) (H : Hp) : ARes :=
 areg (o' (abox T.ty_api_Code (fr 0) H) ⟨fun v1 H =>
 e' [(1, v1)] H⟩)
@[simp] def r1 (fr : AFr) (H : Hp) : ARes :=
 areg (q' (fa' 0 (fr 1)) H ⟨fun v8 H =>
 q' (ld' v8 H) H ⟨fun v9 H =>
 q' (bn' .lss v9 (.int .i64 0)) H ⟨fun v10 H =>
 G' v10 false ⟨fa' 0 (fr 1)⟩ H ⟨fun v12 H =>
 G' v10 false ⟨ld' v12 H⟩ H ⟨fun v13 H =>
 G' v10 false ⟨bn' .gtr v13 (.int .i64 4000)⟩ H ⟨fun v14 H =>
 q' (apick v10 (.bool true) v14) H ⟨fun v15 H =>
 G' v15 false ⟨fa' 1 (fr 1)⟩ H ⟨fun v17 H =>
 G' v15 false ⟨ld' v17 H⟩ H ⟨fun v18 H =>
 G' v15 false ⟨alenR .sl v18⟩ H ⟨fun v19 H =>
 G' v15 false ⟨bn' .gtr v19 (.int .i64 60000)⟩ H ⟨fun v20 H =>
 q' (apick v15 (.bool true) v20) H ⟨fun v21 H =>
 e' [(1, fr 1), (21, v21)] H⟩⟩⟩⟩⟩⟩⟩⟩⟩⟩⟩⟩)
@[simp] def r2 (fr : AFr) (H : Hp) : ARes :=
 areg (e' [(2, (.bool false))] H)
@[simp] def r3 (fr : AFr) (H : Hp) : ARes :=
 areg (q' (fa' 1 (fr 1)) H ⟨fun v22 H =>
 q' (ld' v22 H) H ⟨fun v23 H =>
 q' (alenR .sl v23) H ⟨fun v24 H =>
 e' [(1, fr 1), (23, v23), (24, v24), (25, (.int .i64 0))] H⟩⟩⟩)
@[simp] def r4 (fr : AFr) (H : Hp) : ARes :=
 areg (q' (bn' .lss (fr 25) (fr 24)) H ⟨fun v26 H =>
 e' [(1, fr 1), (23, fr 23), (24, fr 24), (25, fr 25), (26, v26)] H⟩)
@[simp] def r5 (fr : AFr) (H : Hp) : ARes :=
 areg (q' (z_aa (.sl 4) (fr 23) (fr 25)) H ⟨fun v28 H =>
 q' (Ld' 4 v28 H) H ⟨fun v29 H =>
 o' (z_bo T.ty_api_Op (some (.agg [(.int .i64 0), (.int .i64 0), (.int .i64 0), (W32 0#32)])) H) ⟨fun v4 H =>
 w' (z_ac (some 4) v4 v29 H) ⟨fun _ H =>
 e' [(1, fr 1), (3, (fr 25)), (4, v4), (23, fr 23), (24, fr 24), (25, fr 25)] H⟩⟩⟩⟩)
@[simp] def r6 (s0 : SpecP) (fr : AFr) (H : Hp) : ARes :=
 areg (q' (fa' 0 (fr 4)) H ⟨fun v30 H =>
 q' (ld' v30 H) H ⟨fun v31 H =>
 o' (callP false s0 [[none]] [v31] H) ⟨fun v32 H =>
 e' [(1, fr 1), (3, fr 3), (4, fr 4), (5, v32), (23, fr 23), (24, fr 24), (25, fr 25)] H⟩⟩⟩)
@[simp] def r7 (s1 s2 : SpecP) (fr : AFr) (H : Hp) : ARes :=
 areg (q' (fa' 0 (fr 4)) H ⟨fun v33 H =>
 q' (ld' v33 H) H ⟨fun v34 H =>
 q' (bn' .lss v34 (.int .i64 0)) H ⟨fun v35 H =>
 G' v35 false ⟨fa' 0 (fr 4)⟩ H ⟨fun v37 H =>
 G' v35 false ⟨ld' v37 H⟩ H ⟨fun v38 H =>
 G' v35 false ⟨bn' .geq v38 (.int .i64 9)⟩ H ⟨fun v39 H =>
 q' (apick v35 (.bool true) v39) H ⟨fun v40 H =>
 G' v40 false ⟨Ld' 4 (fr 4) H⟩ H ⟨fun v42 H =>
 o' (g' (gw v40 false) ⟨callP false s1 [[none, none, none, none]] [v42] H⟩ H) ⟨fun v43 H =>
 G' v40 false ⟨aun .not v43⟩ H ⟨fun v44 H =>
 q' (apick v40 (.bool true) v44) H ⟨fun v45 H =>
 G' v45 false ⟨fa' 1 (fr 4)⟩ H ⟨fun v47 H =>
 G' v45 false ⟨ld' v47 H⟩ H ⟨fun v48 H =>
 G' v45 false ⟨fa' 0 (fr 1)⟩ H ⟨fun v49 H =>
 G' v45 false ⟨ld' v49 H⟩ H ⟨fun v50 H =>
 G' v45 false ⟨some (fr 3)⟩ H ⟨fun v51 H =>
 G' v45 false ⟨bn' .add v50 v51⟩ H ⟨fun v52 H =>
 G' v45 false ⟨some (fr 5)⟩ H ⟨fun v53 H =>
 G' v45 false ⟨bn' .gtr v53 (.int .i64 0)⟩ H ⟨fun v54 H =>
 o' (g' (gw v45 false) ⟨callP false s2 [[none], [none], [none]] [v48, v52, v54] H⟩ H) ⟨fun v55 H =>
 G' v45 false ⟨aun .not v55⟩ H ⟨fun v56 H =>
 q' (apick v45 (.bool true) v56) H ⟨fun v57 H =>
 G' v57 false ⟨fa' 2 (fr 4)⟩ H ⟨fun v59 H =>
 G' v57 false ⟨ld' v59 H⟩ H ⟨fun v60 H =>
 G' v57 false ⟨fa' 0 (fr 1)⟩ H ⟨fun v61 H =>
 G' v57 false ⟨ld' v61 H⟩ H ⟨fun v62 H =>
 G' v57 false ⟨some (fr 3)⟩ H ⟨fun v63 H =>
 G' v57 false ⟨bn' .add v62 v63⟩ H ⟨fun v64 H =>
 G' v57 false ⟨some (fr 5)⟩ H ⟨fun v65 H =>
 G' v57 false ⟨bn' .gtr v65 (.int .i64 1)⟩ H ⟨fun v66 H =>
 o' (g' (gw v57 false) ⟨callP false s2 [[none], [none], [none]] [v60, v64, v66] H⟩ H) ⟨fun v67 H =>
 G' v57 false ⟨aun .not v67⟩ H ⟨fun v68 H =>
 q' (apick v57 (.bool true) v68) H ⟨fun v69 H =>
 e' [(1, fr 1), (23, fr 23), (24, fr 24), (25, fr 25), (69, v69)] H⟩⟩⟩⟩⟩⟩⟩⟩⟩⟩⟩⟩⟩⟩⟩⟩⟩⟩⟩⟩⟩⟩⟩⟩⟩⟩⟩⟩⟩⟩⟩⟩⟩)
@[simp] def r8 (fr : AFr) (H : Hp) : ARes :=
 areg (e' [(2, (.bool false))] H)
@[simp] def r9 (fr : AFr) (H : Hp) : ARes :=
 areg (q' (bn' .add (fr 25) (.int .i64 1)) H ⟨fun v70 H =>
 e' [(1, fr 1), (23, fr 23), (24, fr 24), (25, v70)] H⟩)
@[simp] def r10 (fr : AFr) (H : Hp) : ARes :=
 areg (q' (fa' 2 (fr 1)) H ⟨fun v71 H =>
 q' (ld' v71 H) H ⟨fun v72 H =>
 q' (alenR .sl v72) H ⟨fun v73 H =>
 e' [(1, fr 1), (72, v72), (73, v73), (74, (.int .i64 0))] H⟩⟩⟩)
@[simp] def r11 (fr : AFr) (H : Hp) : ARes :=
 areg (q' (bn' .lss (fr 74) (fr 73)) H ⟨fun v75 H =>
 e' [(1, fr 1), (72, fr 72), (73, fr 73), (74, fr 74), (75, v75)] H⟩)
@[simp] def r12 (fr : AFr) (H : Hp) : ARes :=
 areg (q' (z_aa (.sl 1) (fr 72) (fr 74)) H ⟨fun v76 H =>
 q' (ld' v76 H) H ⟨fun v77 H =>
 e' [(1, fr 1), (7, v77), (72, fr 72), (73, fr 73), (74, fr 74)] H⟩⟩)
@[simp] def r13 (s2 : SpecP) (fr : AFr) (H : Hp) : ARes :=
 areg (q' (fa' 0 (fr 1)) H ⟨fun v79 H =>
 q' (ld' v79 H) H ⟨fun v80 H =>
 q' (fa' 1 (fr 1)) H ⟨fun v81 H =>
 q' (ld' v81 H) H ⟨fun v82 H =>
 q' (alenR .sl v82) H ⟨fun v83 H =>
 q' (bn' .add v80 v83) H ⟨fun v84 H =>
 o' (callP false s2 [[none], [none], [none]] [(fr 7), v84, (.bool true)] H) ⟨fun v85 H =>
 q' (aun .not v85) H ⟨fun v86 H =>
 e' [(1, fr 1), (72, fr 72), (73, fr 73), (74, fr 74), (86, v86)] H⟩⟩⟩⟩⟩⟩⟩⟩)
@[simp] def r14 (fr : AFr) (H : Hp) : ARes :=
 areg (e' [(2, (.bool false))] H)
@[simp] def r15 (fr : AFr) (H : Hp) : ARes :=
 areg (q' (bn' .add (fr 74) (.int .i64 1)) H ⟨fun v87 H =>
 e' [(1, fr 1), (72, fr 72), (73, fr 73), (74, v87)] H⟩)
@[simp] def r16 (fr : AFr) (H : Hp) : ARes :=
 areg (e' [(2, (.bool true))] H)
def l0 (s0 s1 s2 : SpecP) (fr : AFr) (H : Hp) : ARes :=
 s' (r4 fr H) ⟨fun fr H =>
 s' (c' (fr 26)
 ⟨some (.normal, fr, H)⟩
 ⟨some (.exit 0, fr, H)⟩) ⟨fun fr H =>
 s' (aexit 1 (s' (r5 fr H) ⟨fun fr H =>
 s' (r6 s0 fr H) ⟨fun fr H =>
 s' (r7 s1 s2 fr H) ⟨fun fr H =>
 c' (fr 69)
 ⟨s' (r8 fr H) ⟨fun fr H =>
 some (.ret, fr, H)⟩⟩
 ⟨some (.normal, fr, H)⟩⟩⟩⟩)) ⟨fun fr H =>
 r9 fr H⟩⟩⟩
def l1 (s0 s1 s2 : SpecP) (fr : AFr) (H : Hp) : ARes :=
 s' (r11 fr H) ⟨fun fr H =>
 s' (c' (fr 75)
 ⟨some (.normal, fr, H)⟩
 ⟨some (.exit 2, fr, H)⟩) ⟨fun fr H =>
 s' (aexit 3 (s' (r12 fr H) ⟨fun fr H =>
 s' (r13 s2 fr H) ⟨fun fr H =>
 c' (fr 86)
 ⟨s' (r14 fr H) ⟨fun fr H =>
 some (.ret, fr, H)⟩⟩
 ⟨some (.normal, fr, H)⟩⟩⟩)) ⟨fun fr H =>
 r15 fr H⟩⟩⟩
@[simp] def body (s0 s1 s2 : SpecP) (fr : AFr) (H : Hp) : ARes :=
 s' (r0 fr H) ⟨fun fr H =>
 s' (s' (r1 fr H) ⟨fun fr H =>
 c' (fr 21)
 ⟨s' (r2 fr H) ⟨fun fr H =>
 some (.ret, fr, H)⟩⟩
 ⟨some (.normal, fr, H)⟩⟩) ⟨fun fr H =>
 s' (s' (r3 fr H) ⟨fun fr H =>
 aexit 0 (aloop (l0 s0 s1 s2) fr H)⟩) ⟨fun fr H =>
 s' (s' (r10 fr H) ⟨fun fr H =>
 aexit 2 (aloop (l1 s0 s1 s2) fr H)⟩) ⟨fun fr H =>
 s' (r16 fr H) ⟨fun fr H =>
 some (.ret, fr, H)⟩⟩⟩⟩⟩
@[simp] def res (fr : AFr) (H : Hp) : Option (List AV) := res2 (some (fr 2)) (some [])
end z_b2
def z_b2 (a0 : AV) : Option AV := z_ap (some [[none]]) (afinR z_b2.res (z_b2.body z_bb.spec z_bd.spec z_cl.spec (args0 [a0]) Hp.empty))
def z_b2.spec : List AV → Option AV
 | [a0] => z_b2 a0
 | _ => none
namespace z_d9
def C (s0 : SpecP) : Tab := (Tab.none.add 113 (.pure false s0))
@[simp] def r0 (fr : AFr) (H : Hp) : ARes :=
 areg (o' (abox T.ty_api_Code (fr 0) H) ⟨fun v1 H =>
 e' [(1, v1)] H⟩)
@[simp] def r1 (s0 : SpecP) (fr : AFr) (H : Hp) : ARes :=
 areg (q' (Ld' 3 (fr 1) H) H ⟨fun v3 H =>
 o' (callP false s0 [[none, some 4, some 1]] [v3] H) ⟨fun v4 H =>
 e' [(2, v4)] H⟩⟩)
@[simp] def body (s0 : SpecP) (fr : AFr) (H : Hp) : ARes :=
 s' (r0 fr H) ⟨fun fr H =>
 s' (r1 s0 fr H) ⟨fun fr H =>
 some (.ret, fr, H)⟩⟩
@[simp] def res (fr : AFr) (H : Hp) : Option (List AV) := res2 (some (fr 2)) (some [])
end z_d9
def z_d9 (a0 : AV) : Option AV := z_ap (some [[none]]) (afinR z_d9.res (z_d9.body z_b2.spec (args0 [a0]) Hp.empty))
def z_d9.spec : List AV → Option AV
 | [a0] => z_d9 a0
 | _ => none
end
end Go.Abs
end
