/-
  The functions, as they are over abstract values. Printed by gen.py.
-/
import Derived.Test.YteohnepdbjmghaaZ3
import Derived.Test.YteohnepdbjmghaaZ4
set_option linter.unusedSimpArgs false
set_option linter.unusedVariables false
set_option maxHeartbeats 20000000
set_option maxRecDepth 100000
section
namespace Go.Abs
noncomputable section
namespace z_bs
def C : Tab := Tab.none
@[simp] def r0 (fr : AFr) (H : Hp) : ARes :=
 areg (e' [(0, fr 0)] H)
@[simp] def r1 (fr : AFr) (H : Hp) : ARes :=
 areg (e' [(3, (fr 0))] H)
@[simp] def r2 (fr : AFr) (H : Hp) : ARes :=
 areg (q' (bn' .eql (fr 3) (.int .i64 1)) H ⟨fun v5 H =>
 e' [(3, fr 3), (4, v5)] H⟩)
@[simp] def r3 (fr : AFr) (H : Hp) : ARes :=
 areg (q' (bn' .eql (fr 3) (.int .i64 2)) H ⟨fun v6 H =>
 e' [(3, fr 3), (4, v6)] H⟩)
@[simp] def r4 (fr : AFr) (H : Hp) : ARes :=
 areg (e' [(2, (.int .i64 2))] H)
@[simp] def r5 (fr : AFr) (H : Hp) : ARes :=
 areg (q' (bn' .eql (fr 3) (.int .i64 0)) H ⟨fun v8 H =>
 e' [(3, fr 3), (7, v8)] H⟩)
@[simp] def r6 (fr : AFr) (H : Hp) : ARes :=
 areg (q' (bn' .eql (fr 3) (.int .i64 7)) H ⟨fun v9 H =>
 e' [(7, v9)] H⟩)
@[simp] def r7 (fr : AFr) (H : Hp) : ARes :=
 areg (e' [(2, (.int .i64 0))] H)
@[simp] def r8 (fr : AFr) (H : Hp) : ARes :=
 areg (e' [(2, (.int .i64 1))] H)
@[simp] def body (fr : AFr) (H : Hp) : ARes :=
 s' (r0 fr H) ⟨fun fr H =>
 s' (s' (r1 fr H) ⟨fun fr H =>
 aexit 0 (s' (s' (r2 fr H) ⟨fun fr H =>
 c' (fr 4)
 ⟨some (.normal, fr, H)⟩
 ⟨r3 fr H⟩⟩) ⟨fun fr H =>
 c' (fr 4)
 ⟨s' (r4 fr H) ⟨fun fr H =>
 some (.ret, fr, H)⟩⟩
 ⟨s' (s' (r5 fr H) ⟨fun fr H =>
 c' (fr 7)
 ⟨some (.normal, fr, H)⟩
 ⟨r6 fr H⟩⟩) ⟨fun fr H =>
 c' (fr 7)
 ⟨s' (r7 fr H) ⟨fun fr H =>
 some (.ret, fr, H)⟩⟩
 ⟨some (.normal, fr, H)⟩⟩⟩⟩)⟩) ⟨fun fr H =>
 s' (r8 fr H) ⟨fun fr H =>
 some (.ret, fr, H)⟩⟩⟩
@[simp] def res (fr : AFr) (H : Hp) : Option (List AV) := res2 (some (fr 2)) (some [])
end z_bs
def z_bs (a0 : AV) : Option AV := z_ap (some [[none]]) (afinR z_bs.res (z_bs.body (args0 [a0]) Hp.empty))
def z_bs.spec : List AV → Option AV
 | [a0] => z_bs a0
 | _ => none
namespace z_cq
def C : Tab := Tab.none
@[simp] def r0 (fr : AFr) (H : Hp) : ARes :=
 areg (e' [(0, fr 0)] H)
@[simp] def r1 (fr : AFr) (H : Hp) : ARes :=
 areg (q' (bn' .geq (fr 0) (.int .i64 0)) H ⟨fun v4 H =>
 G' v4 true ⟨some (fr 0)⟩ H ⟨fun v6 H =>
 G' v4 true ⟨bn' .leq v6 (.int .i64 16000)⟩ H ⟨fun v7 H =>
 q' (apick v4 v7 (.bool false)) H ⟨fun v8 H =>
 e' [(2, v8)] H⟩⟩⟩⟩)
@[simp] def body (fr : AFr) (H : Hp) : ARes :=
 s' (r0 fr H) ⟨fun fr H =>
 s' (r1 fr H) ⟨fun fr H =>
 some (.ret, fr, H)⟩⟩
@[simp] def res (fr : AFr) (H : Hp) : Option (List AV) := res2 (some (fr 2)) (some [])
end z_cq
def z_cq (a0 : AV) : Option AV := z_ap (some [[none]]) (afinR z_cq.res (z_cq.body (args0 [a0]) Hp.empty))
def z_cq.spec : List AV → Option AV
 | [a0] => z_cq a0
 | _ => none
namespace z_a0
def C : Tab := Tab.none
@[simp] def r0 (fr : AFr) (H : Hp) : ARes :=
 areg (e' [(0, fr 0), (1, fr 1)] H)
@[simp] def r1 (fr : AFr) (H : Hp) : ARes :=
 areg (q' (bn' .lss (fr 0) (.int .i64 0)) H ⟨fun v5 H =>
 G' v5 false ⟨some (fr 0)⟩ H ⟨fun v7 H =>
 G' v5 false ⟨ld' (fr 1) H⟩ H ⟨fun v8 H =>
 G' v5 false ⟨alenR .sl v8⟩ H ⟨fun v9 H =>
 G' v5 false ⟨bn' .geq v7 v9⟩ H ⟨fun v10 H =>
 q' (apick v5 (.bool true) v10) H ⟨fun v11 H =>
 e' [(3, v11)] H⟩⟩⟩⟩⟩⟩)
@[simp] def body (fr : AFr) (H : Hp) : ARes :=
 s' (r0 fr H) ⟨fun fr H =>
 s' (r1 fr H) ⟨fun fr H =>
 some (.ret, fr, H)⟩⟩
@[simp] def res (fr : AFr) (H : Hp) : Option (List AV) := res2 (some (fr 3)) (some [])
end z_a0
def z_a0 (a0 a1 : AV) (H : Hp) : Option (AV × Hp) := forget H (afinR z_a0.res (z_a0.body (args0 [a0, a1]) H))
def z_a0.spec : List AV → Hp → Option (AV × Hp)
 | [a0, a1], H => z_a0 a0 a1 H
 | _, _ => none
namespace z_cc
def C (s0 : SpecP) : Tab := (Tab.none.add 70 (.pure false s0))
@[simp] def r0 (fr : AFr) (H : Hp) : ARes :=
 areg (e' [(0, fr 0)] H)
@[simp] def r1 (s0 : SpecP) (fr : AFr) (H : Hp) : ARes :=
 areg (o' (callP false s0 [[none]] [(fr 0)] H) ⟨fun v4 H =>
 q' (aun .not v4) H ⟨fun v5 H =>
 e' [(2, v5)] H⟩⟩)
@[simp] def body (s0 : SpecP) (fr : AFr) (H : Hp) : ARes :=
 s' (r0 fr H) ⟨fun fr H =>
 s' (r1 s0 fr H) ⟨fun fr H =>
 some (.ret, fr, H)⟩⟩
@[simp] def res (fr : AFr) (H : Hp) : Option (List AV) := res2 (some (fr 2)) (some [])
end z_cc
def z_cc (a0 : AV) : Option AV := z_ap (some [[none]]) (afinR z_cc.res (z_cc.body z_cq.spec (args0 [a0]) Hp.empty))
def z_cc.spec : List AV → Option AV
 | [a0] => z_cc a0
 | _ => none
namespace z_cb
def C (s0 : SpecP) : Tab := (Tab.none.add 70 (.pure false s0))
@[simp] def r0 (fr : AFr) (H : Hp) : ARes :=
 areg (e' [(0, fr 0)] H)
@[simp] def r1 (s0 : SpecP) (fr : AFr) (H : Hp) : ARes :=
 areg (o' (callP false s0 [[none]] [(fr 0)] H) ⟨fun v4 H =>
 q' (aun .not v4) H ⟨fun v5 H =>
 e' [(2, v5)] H⟩⟩)
@[simp] def body (s0 : SpecP) (fr : AFr) (H : Hp) : ARes :=
 s' (r0 fr H) ⟨fun fr H =>
 s' (r1 s0 fr H) ⟨fun fr H =>
 some (.ret, fr, H)⟩⟩
@[simp] def res (fr : AFr) (H : Hp) : Option (List AV) := res2 (some (fr 2)) (some [])
end z_cb
def z_cb (a0 : AV) : Option AV := z_ap (some [[none]]) (afinR z_cb.res (z_cb.body z_cq.spec (args0 [a0]) Hp.empty))
def z_cb.spec : List AV → Option AV
 | [a0] => z_cb a0
 | _ => none
namespace z_an
def C (s0 s1 : SpecP) (s2 : SpecM) : Tab := (((Tab.none.add 72 (.pure false s0)).add 80 (.pure false s1)).add 140 (.ref [false] s2))
@[simp] def r0 (fr : AFr) (H : Hp) : ARes :=
 areg (e' [(0, fr 0), (1, fr 1)] H)
@[simp] def r1 (fr : AFr) (H : Hp) : ARes :=
 areg (q' (alenR .sl (fr 0)) H ⟨fun v7 H =>
 e' [(0, fr 0), (1, fr 1), (7, v7), (8, (.int .i64 0))] H⟩)
@[simp] def r2 (fr : AFr) (H : Hp) : ARes :=
 areg (q' (bn' .lss (fr 8) (fr 7)) H ⟨fun v9 H =>
 e' [(0, fr 0), (1, fr 1), (7, fr 7), (8, fr 8), (9, v9)] H⟩)
@[simp] def r3 (fr : AFr) (H : Hp) : ARes :=
 areg (e' [(0, fr 0), (1, fr 1), (5, (fr 8)), (7, fr 7), (8, fr 8)] H)
@[simp] def r4 (s0 s1 : SpecP) (s2 : SpecM) (fr : AFr) (H : Hp) : ARes :=
 areg (q' (z_aa (.sl 1) (fr 0) (fr 5)) H ⟨fun v14 H =>
 q' (ld' v14 H) H ⟨fun v15 H =>
 o' (z_ft (C s0 s1 s2) (some [[none]]) (fr 1) [v15] H) ⟨fun v16 H =>
 e' [(0, fr 0), (1, fr 1), (5, fr 5), (7, fr 7), (8, fr 8), (16, v16)] H⟩⟩⟩)
@[simp] def r5 (fr : AFr) (H : Hp) : ARes :=
 areg (e' [(4, (fr 5))] H)
@[simp] def r6 (fr : AFr) (H : Hp) : ARes :=
 areg (q' (bn' .add (fr 8) (.int .i64 1)) H ⟨fun v18 H =>
 e' [(0, fr 0), (1, fr 1), (7, fr 7), (8, v18)] H⟩)
@[simp] def r7 (fr : AFr) (H : Hp) : ARes :=
 areg (e' [(4, (.int .i64 (-1)))] H)
def l0 (s0 s1 : SpecP) (s2 : SpecM) (fr : AFr) (H : Hp) : ARes :=
 s' (r2 fr H) ⟨fun fr H =>
 s' (c' (fr 9)
 ⟨some (.normal, fr, H)⟩
 ⟨some (.exit 0, fr, H)⟩) ⟨fun fr H =>
 s' (aexit 1 (s' (r3 fr H) ⟨fun fr H =>
 s' (r4 s0 s1 s2 fr H) ⟨fun fr H =>
 c' (fr 16)
 ⟨s' (r5 fr H) ⟨fun fr H =>
 some (.ret, fr, H)⟩⟩
 ⟨some (.normal, fr, H)⟩⟩⟩)) ⟨fun fr H =>
 r6 fr H⟩⟩⟩
@[simp] def body (s0 s1 : SpecP) (s2 : SpecM) (fr : AFr) (H : Hp) : ARes :=
 s' (r0 fr H) ⟨fun fr H =>
 s' (s' (r1 fr H) ⟨fun fr H =>
 aexit 0 (aloop (l0 s0 s1 s2) fr H)⟩) ⟨fun fr H =>
 s' (r7 fr H) ⟨fun fr H =>
 some (.ret, fr, H)⟩⟩⟩
@[simp] def res (fr : AFr) (H : Hp) : Option (List AV) := res2 (some (fr 4)) (some [])
end z_an
def z_an (a0 a1 : AV) (H : Hp) : Option (AV × Hp) := forget H (afinR z_an.res (z_an.body z_cb.spec z_cc.spec z_a0.spec (args0 [a0, a1]) H))
def z_an.spec : List AV → Hp → Option (AV × Hp)
 | [a0, a1], H => z_an a0 a1 H
 | _, _ => none
namespace z_ak
def C (s0 : SpecM) : Tab := (Tab.none.add 114 (.ref [true, false] s0))
@[simp] def r0 (fr : AFr) (H : Hp) : ARes :=
 areg (e' [(0, fr 0), (1, fr 1)] H)
@[simp] def r1 (s0 : SpecM) (fr : AFr) (H : Hp) : ARes :=
 areg (o' (callM [true, false] s0 [[some 1], [none]] [(fr 0), (fr 1)] H) ⟨fun v7 H =>
 q' (bn' .geq v7 (.int .i64 0)) H ⟨fun v8 H =>
 e' [(4, v8)] H⟩⟩)
@[simp] def body (s0 : SpecM) (fr : AFr) (H : Hp) : ARes :=
 s' (r0 fr H) ⟨fun fr H =>
 s' (r1 s0 fr H) ⟨fun fr H =>
 some (.ret, fr, H)⟩⟩
@[simp] def res (fr : AFr) (H : Hp) : Option (List AV) := res2 (some (fr 4)) (some [])
end z_ak
def z_ak (a0 a1 : AV) (H : Hp) : Option (AV × Hp) := forget H (afinR z_ak.res (z_ak.body z_an.spec (args0 [a0, a1]) H))
def z_ak.spec : List AV → Hp → Option (AV × Hp)
 | [a0, a1], H => z_ak a0 a1 H
 | _, _ => none
namespace z_cp
def C : Tab := Tab.none
@[simp] def r0 (fr : AFr) (H : Hp) : ARes :=
 areg (o' (z_bo T.ty_api_Ins (some (.agg [(.int .i64 0), (.int .i64 0), (.int .i64 0), (.int .i64 0), (.int .i64 0)])) H) ⟨fun v4 H =>
 e' [(0, fr 0), (1, fr 1), (4, v4)] H⟩)
@[simp] def r1 (fr : AFr) (H : Hp) : ARes :=
 areg (q' (z_a3 (.str [(.int .i64 0), (.int .i64 0), (.int .i64 0), (.int .i64 0), (.int .i64 0)] [(0, 1), (1, 1), (2, 1), (3, 1), (4, 1)]) [(0, (.int .i64 0)), (1, (fr 0)), (4, (fr 1))]) H ⟨fun v7 H =>
 w' (z_ac (some 5) (fr 4) v7 H) ⟨fun _ H =>
 e' [(4, fr 4)] H⟩⟩)
@[simp] def body (fr : AFr) (H : Hp) : ARes :=
 s' (r0 fr H) ⟨fun fr H =>
 s' (r1 fr H) ⟨fun fr H =>
 some (.ret, fr, H)⟩⟩
@[simp] def res (fr : AFr) (H : Hp) : Option (List AV) := res2 (z_am (some (some 5)) (fr 4) H) (some [])
end z_cp
def z_cp (a0 a1 : AV) : Option AV := z_ap (some [[none, none, none, none, none]]) (afinR z_cp.res (z_cp.body (args0 [a0, a1]) Hp.empty))
def z_cp.spec : List AV → Option AV
 | [a0, a1] => z_cp a0 a1
 | _ => none
namespace z_cm
def C : Tab := Tab.none
@[simp] def r0 (fr : AFr) (H : Hp) : ARes :=
 areg (o' (z_bo T.ty_api_Ins (some (.agg [(.int .i64 0), (.int .i64 0), (.int .i64 0), (.int .i64 0), (.int .i64 0)])) H) ⟨fun v4 H =>
 e' [(0, fr 0), (1, fr 1), (4, v4)] H⟩)
@[simp] def r1 (fr : AFr) (H : Hp) : ARes :=
 areg (q' (z_a3 (.str [(.int .i64 0), (.int .i64 0), (.int .i64 0), (.int .i64 0), (.int .i64 0)] [(0, 1), (1, 1), (2, 1), (3, 1), (4, 1)]) [(0, (.int .i64 4)), (1, (fr 0)), (3, (fr 0)), (4, (fr 1))]) H ⟨fun v8 H =>
 w' (z_ac (some 5) (fr 4) v8 H) ⟨fun _ H =>
 e' [(4, fr 4)] H⟩⟩)
@[simp] def body (fr : AFr) (H : Hp) : ARes :=
 s' (r0 fr H) ⟨fun fr H =>
 s' (r1 fr H) ⟨fun fr H =>
 some (.ret, fr, H)⟩⟩
@[simp] def res (fr : AFr) (H : Hp) : Option (List AV) := res2 (z_am (some (some 5)) (fr 4) H) (some [])
end z_cm
def z_cm (a0 a1 : AV) : Option AV := z_ap (some [[none, none, none, none, none]]) (afinR z_cm.res (z_cm.body (args0 [a0, a1]) Hp.empty))
def z_cm.spec : List AV → Option AV
 | [a0, a1] => z_cm a0 a1
 | _ => none
namespace z_dp
def C : Tab := Tab.none
@[simp] def r0 (fr : AFr) (H : Hp) : ARes :=
 areg (o' (z_bo T.ty_api_Ins (some (.agg [(.int .i64 0), (.int .i64 0), (.int .i64 0), (.int .i64 0), (.int .i64 0)])) H) ⟨fun v4 H =>
 e' [(0, fr 0), (1, fr 1), (4, v4)] H⟩)
@[simp] def r1 (fr : AFr) (H : Hp) : ARes :=
 areg (q' (z_a3 (.str [(.int .i64 0), (.int .i64 0), (.int .i64 0), (.int .i64 0), (.int .i64 0)] [(0, 1), (1, 1), (2, 1), (3, 1), (4, 1)]) [(0, (.int .i64 2)), (1, (fr 0)), (4, (fr 1))]) H ⟨fun v7 H =>
 w' (z_ac (some 5) (fr 4) v7 H) ⟨fun _ H =>
 e' [(4, fr 4)] H⟩⟩)
@[simp] def body (fr : AFr) (H : Hp) : ARes :=
 s' (r0 fr H) ⟨fun fr H =>
 s' (r1 fr H) ⟨fun fr H =>
 some (.ret, fr, H)⟩⟩
@[simp] def res (fr : AFr) (H : Hp) : Option (List AV) := res2 (z_am (some (some 5)) (fr 4) H) (some [])
end z_dp
def z_dp (a0 a1 : AV) : Option AV := z_ap (some [[none, none, none, none, none]]) (afinR z_dp.res (z_dp.body (args0 [a0, a1]) Hp.empty))
def z_dp.spec : List AV → Option AV
 | [a0, a1] => z_dp a0 a1
 | _ => none
namespace z_ci
def C (s0 s1 s2 : SpecP) : Tab := (((Tab.none.add 78 (.pure false s0)).add 79 (.pure false s1)).add 121 (.pure false s2))
@[simp] def r0 (fr : AFr) (H : Hp) : ARes :=
 areg (e' [(0, fr 0)] H)
@[simp] def r1 (fr : AFr) (H : Hp) : ARes :=
 areg (q' (bn' .mul (fr 0) (.int .i64 4)) H ⟨fun v4 H =>
 e' [(0, v4)] H⟩)
@[simp] def r2 (fr : AFr) (H : Hp) : ARes :=
 areg (q' (bn' .lss (fr 0) (.int .i64 256)) H ⟨fun v6 H =>
 e' [(0, fr 0), (6, v6)] H⟩)
@[simp] def r3 (s0 : SpecP) (fr : AFr) (H : Hp) : ARes :=
 areg (o' (callP false s0 [[none], [none]] [(.int .i64 6), (fr 0)] H) ⟨fun v8 H =>
 o' (z_ae (some ⟨T.ty_api_Ins, 5, 40, [(.int .i64 0), (.int .i64 0), (.int .i64 0), (.int .i64 0), (.int .i64 0)]⟩) 1 [(0, v8)] H) ⟨fun v9 H =>
 e' [(2, v9)] H⟩⟩)
@[simp] def r4 (s0 s1 s2 : SpecP) (fr : AFr) (H : Hp) : ARes :=
 areg (q' (bn' .quo (fr 0) (.int .i64 256)) H ⟨fun v11 H =>
 o' (callP false s0 [[none], [none]] [(.int .i64 6), v11] H) ⟨fun v12 H =>
 o' (callP false s1 [[none], [none]] [(.int .i64 6), (.int .i64 8)] H) ⟨fun v13 H =>
 q' (bn' .rem (fr 0) (.int .i64 256)) H ⟨fun v15 H =>
 o' (callP false s2 [[none], [none]] [(.int .i64 6), v15] H) ⟨fun v16 H =>
 o' (z_ae (some ⟨T.ty_api_Ins, 5, 40, [(.int .i64 0), (.int .i64 0), (.int .i64 0), (.int .i64 0), (.int .i64 0)]⟩) 3 [(0, v12), (1, v13), (2, v16)] H) ⟨fun v17 H =>
 e' [(2, v17)] H⟩⟩⟩⟩⟩⟩)
@[simp] def body (s0 s1 s2 : SpecP) (fr : AFr) (H : Hp) : ARes :=
 s' (r0 fr H) ⟨fun fr H =>
 s' (r1 fr H) ⟨fun fr H =>
 s' (s' (r2 fr H) ⟨fun fr H =>
 c' (fr 6)
 ⟨s' (r3 s0 fr H) ⟨fun fr H =>
 some (.ret, fr, H)⟩⟩
 ⟨some (.normal, fr, H)⟩⟩) ⟨fun fr H =>
 s' (r4 s0 s1 s2 fr H) ⟨fun fr H =>
 some (.ret, fr, H)⟩⟩⟩⟩
@[simp] def res (fr : AFr) (H : Hp) : Option (List AV) := res2 (some (fr 2)) (some [])
end z_ci
def z_ci (a0 : AV) (H : Hp) : Option (AV × Hp) := raw (afinR z_ci.res (z_ci.body z_cp.spec z_cm.spec z_dp.spec (args0 [a0]) H))
def z_ci.spec : List AV → Hp → Option (AV × Hp)
 | [a0], H => z_ci a0 H
 | _, _ => none
namespace z_eb
def C (s0 : SpecM) : Tab := (Tab.none.add 77 (.ref [false] s0))
@[simp] def r0 (fr : AFr) (H : Hp) : ARes :=
 areg (e' [(0, fr 0), (1, fr 1)] H)
@[simp] def r1 (s0 : SpecM) (fr : AFr) (H : Hp) : ARes :=
 areg (o' (callM [false] s0 [[none]] [(fr 1)] H) ⟨fun v6 H =>
 q' (z_a3 (.str [(.int .i64 0), (.int .i64 0), (.int .i64 0), (.int .i64 0), (.int .i64 0)] [(0, 1), (1, 1), (2, 1), (3, 1), (4, 1)]) [(0, (.int .i64 14)), (1, (fr 0)), (2, (.int .i64 7)), (3, (.int .i64 6))]) H ⟨fun v8 H =>
 o' (z_ae (some ⟨T.ty_api_Ins, 5, 40, [(.int .i64 0), (.int .i64 0), (.int .i64 0), (.int .i64 0), (.int .i64 0)]⟩) 1 [(0, v8)] H) ⟨fun v9 H =>
 o' (z_bt (some ⟨T.ty_api_Ins, 5, 40, [(.int .i64 0), (.int .i64 0), (.int .i64 0), (.int .i64 0), (.int .i64 0)]⟩) v6 v9 H) ⟨fun v10 H =>
 e' [(4, v10)] H⟩⟩⟩⟩)
@[simp] def body (s0 : SpecM) (fr : AFr) (H : Hp) : ARes :=
 s' (r0 fr H) ⟨fun fr H =>
 s' (r1 s0 fr H) ⟨fun fr H =>
 some (.ret, fr, H)⟩⟩
@[simp] def res (fr : AFr) (H : Hp) : Option (List AV) := res2 (some (fr 4)) (some [])
end z_eb
def z_eb (a0 a1 : AV) : Option AV := z_ap (some [[some 5]]) (afinR z_eb.res (z_eb.body z_ci.spec (args0 [a0, a1]) Hp.empty))
def z_eb.spec : List AV → Option AV
 | [a0, a1] => z_eb a0 a1
 | _ => none
namespace z_ec
def C : Tab := Tab.none
@[simp] def r0 (fr : AFr) (H : Hp) : ARes :=
 areg (o' (z_bo T.ty_api_Ins (some (.agg [(.int .i64 0), (.int .i64 0), (.int .i64 0), (.int .i64 0), (.int .i64 0)])) H) ⟨fun v6 H =>
 e' [(0, fr 0), (1, fr 1), (2, fr 2), (6, v6)] H⟩)
@[simp] def r1 (fr : AFr) (H : Hp) : ARes :=
 areg (q' (z_a3 (.str [(.int .i64 0), (.int .i64 0), (.int .i64 0), (.int .i64 0), (.int .i64 0)] [(0, 1), (1, 1), (2, 1), (3, 1), (4, 1)]) [(0, (.int .i64 11)), (1, (fr 1)), (3, (fr 2)), (4, (fr 0))]) H ⟨fun v10 H =>
 w' (z_ac (some 5) (fr 6) v10 H) ⟨fun _ H =>
 e' [(6, fr 6)] H⟩⟩)
@[simp] def body (fr : AFr) (H : Hp) : ARes :=
 s' (r0 fr H) ⟨fun fr H =>
 s' (r1 fr H) ⟨fun fr H =>
 some (.ret, fr, H)⟩⟩
@[simp] def res (fr : AFr) (H : Hp) : Option (List AV) := res2 (z_am (some (some 5)) (fr 6) H) (some [])
end z_ec
def z_ec (a0 a1 a2 : AV) : Option AV := z_ap (some [[none, none, none, none, none]]) (afinR z_ec.res (z_ec.body (args0 [a0, a1, a2]) Hp.empty))
def z_ec.spec : List AV → Option AV
 | [a0, a1, a2] => z_ec a0 a1 a2
 | _ => none
namespace z_bn
def C (s0 s1 s2 : SpecP) : Tab := (((Tab.none.add 79 (.pure false s0)).add 121 (.pure false s1)).add 78 (.pure false s2))
@[simp] def r0 (fr : AFr) (H : Hp) : ARes :=
 areg (e' [(0, fr 0)] H)
@[simp] def r1 (fr : AFr) (H : Hp) : ARes :=
 areg (e' [(0, fr 0), (3, .nils)] H)
@[simp] def r2 (fr : AFr) (H : Hp) : ARes :=
 areg (e' [(0, fr 0), (3, fr 3), (4, (.int .i64 24))] H)
@[simp] def r3 (fr : AFr) (H : Hp) : ARes :=
 areg (q' (bn' .geq (fr 4) (.int .i64 0)) H ⟨fun v7 H =>
 e' [(0, fr 0), (3, fr 3), (4, fr 4), (7, v7)] H⟩)
@[simp] def r5 (fr : AFr) (H : Hp) : ARes :=
 areg (q' (bn' .shr (fr 0) (fr 4)) H ⟨fun v12 H =>
 q' (bn' .and v12 (W32 255#32)) H ⟨fun v13 H =>
 q' (z_du (some .i64) v13) H ⟨fun v14 H =>
 e' [(0, fr 0), (3, fr 3), (4, fr 4), (5, v14)] H⟩⟩⟩)
@[simp] def r6 (fr : AFr) (H : Hp) : ARes :=
 areg (q' (alenR .sl (fr 3)) H ⟨fun v17 H =>
 q' (bn' .gtr v17 (.int .i64 0)) H ⟨fun v18 H =>
 e' [(0, fr 0), (3, fr 3), (4, fr 4), (5, fr 5), (15, v18)] H⟩⟩)
@[simp] def r7 (s0 s1 : SpecP) (fr : AFr) (H : Hp) : ARes :=
 areg (o' (callP false s0 [[none], [none]] [(.int .i64 0), (.int .i64 8)] H) ⟨fun v20 H =>
 o' (callP false s1 [[none], [none]] [(.int .i64 0), (fr 5)] H) ⟨fun v22 H =>
 o' (z_ae (some ⟨T.ty_api_Ins, 5, 40, [(.int .i64 0), (.int .i64 0), (.int .i64 0), (.int .i64 0), (.int .i64 0)]⟩) 2 [(0, v20), (1, v22)] H) ⟨fun v23 H =>
 o' (z_bt (some ⟨T.ty_api_Ins, 5, 40, [(.int .i64 0), (.int .i64 0), (.int .i64 0), (.int .i64 0), (.int .i64 0)]⟩) (fr 3) v23 H) ⟨fun v24 H =>
 e' [(0, fr 0), (3, v24), (4, fr 4)] H⟩⟩⟩⟩)
@[simp] def r8 (fr : AFr) (H : Hp) : ARes :=
 areg (q' (bn' .gtr (fr 5) (.int .i64 0)) H ⟨fun v27 H =>
 G' v27 false ⟨some (fr 4)⟩ H ⟨fun v29 H =>
 G' v27 false ⟨bn' .eql v29 (.int .i64 0)⟩ H ⟨fun v30 H =>
 q' (apick v27 (.bool true) v30) H ⟨fun v31 H =>
 e' [(0, fr 0), (3, fr 3), (4, fr 4), (5, fr 5), (25, v31)] H⟩⟩⟩⟩)
@[simp] def r9 (s2 : SpecP) (fr : AFr) (H : Hp) : ARes :=
 areg (o' (callP false s2 [[none], [none]] [(.int .i64 0), (fr 5)] H) ⟨fun v34 H =>
 o' (z_ae (some ⟨T.ty_api_Ins, 5, 40, [(.int .i64 0), (.int .i64 0), (.int .i64 0), (.int .i64 0), (.int .i64 0)]⟩) 1 [(0, v34)] H) ⟨fun v35 H =>
 o' (z_bt (some ⟨T.ty_api_Ins, 5, 40, [(.int .i64 0), (.int .i64 0), (.int .i64 0), (.int .i64 0), (.int .i64 0)]⟩) (fr 3) v35 H) ⟨fun v36 H =>
 e' [(0, fr 0), (3, v36), (4, fr 4)] H⟩⟩⟩)
@[simp] def r4 (fr : AFr) (H : Hp) : ARes :=
 areg (q' (bn' .sub (fr 4) (.int .i64 8)) H ⟨fun v9 H =>
 e' [(0, fr 0), (3, fr 3), (4, v9)] H⟩)
@[simp] def r10 (fr : AFr) (H : Hp) : ARes :=
 areg (e' [(2, (fr 3))] H)
def l0 (s0 s1 s2 : SpecP) (fr : AFr) (H : Hp) : ARes :=
 s' (s' (r3 fr H) ⟨fun fr H =>
 c' (fr 7)
 ⟨some (.normal, fr, H)⟩
 ⟨some (.exit 0, fr, H)⟩⟩) ⟨fun fr H =>
 s' (aexit 1 (s' (r5 fr H) ⟨fun fr H =>
 aexit 2 (s' (r6 fr H) ⟨fun fr H =>
 c' (fr 15)
 ⟨r7 s0 s1 fr H⟩
 ⟨s' (r8 fr H) ⟨fun fr H =>
 c' (fr 25)
 ⟨r9 s2 fr H⟩
 ⟨some (.normal, fr, H)⟩⟩⟩⟩)⟩)) ⟨fun fr H =>
 r4 fr H⟩⟩
@[simp] def body (s0 s1 s2 : SpecP) (fr : AFr) (H : Hp) : ARes :=
 s' (r0 fr H) ⟨fun fr H =>
 s' (r1 fr H) ⟨fun fr H =>
 s' (s' (r2 fr H) ⟨fun fr H =>
 aexit 0 (aloop (l0 s0 s1 s2) fr H)⟩) ⟨fun fr H =>
 s' (r10 fr H) ⟨fun fr H =>
 some (.ret, fr, H)⟩⟩⟩⟩
@[simp] def res (fr : AFr) (H : Hp) : Option (List AV) := res2 (some (fr 2)) (some [])
end z_bn
def z_bn (a0 : AV) : Option AV := z_ap (some [[some 5]]) (afinR z_bn.res (z_bn.body z_cm.spec z_dp.spec z_cp.spec (args0 [a0]) Hp.empty))
def z_bn.spec : List AV → Option AV
 | [a0] => z_bn a0
 | _ => none
namespace z_bq
def C (s0 s1 s2 s3 : SpecP) : Tab := ((((Tab.none.add 159 (.pure false s0)).add 79 (.pure false s1)).add 78 (.pure false s2)).add 160 (.pure false s3))
@[simp] def r0 (fr : AFr) (H : Hp) : ARes :=
 areg (o' (abox T.ty_api_Op (fr 0) H) ⟨fun v1 H =>
 e' [(1, v1)] H⟩)
@[simp] def r1 (fr : AFr) (H : Hp) : ARes :=
 areg (q' (fa' 0 (fr 1)) H ⟨fun v3 H =>
 q' (ld' v3 H) H ⟨fun v4 H =>
 e' [(1, fr 1), (4, v4)] H⟩⟩)
@[simp] def r2 (fr : AFr) (H : Hp) : ARes :=
 areg (q' (bn' .eql (fr 4) (.int .i64 1)) H ⟨fun v6 H =>
 e' [(1, fr 1), (4, fr 4), (5, v6)] H⟩)
@[simp] def r3 (s0 : SpecP) (fr : AFr) (H : Hp) : ARes :=
 areg (o' (callP false s0 [[none], [none], [none]] [(.int .i64 0), (.int .i64 0), (.int .i64 1)] H) ⟨fun v7 H =>
 o' (z_ae (some ⟨T.ty_api_Ins, 5, 40, [(.int .i64 0), (.int .i64 0), (.int .i64 0), (.int .i64 0), (.int .i64 0)]⟩) 1 [(0, v7)] H) ⟨fun v8 H =>
 e' [(2, v8)] H⟩⟩)
@[simp] def r4 (fr : AFr) (H : Hp) : ARes :=
 areg (q' (bn' .eql (fr 4) (.int .i64 2)) H ⟨fun v10 H =>
 e' [(1, fr 1), (4, fr 4), (9, v10)] H⟩)
@[simp] def r5 (s0 : SpecP) (fr : AFr) (H : Hp) : ARes :=
 areg (o' (callP false s0 [[none], [none], [none]] [(.int .i64 1), (.int .i64 0), (.int .i64 1)] H) ⟨fun v11 H =>
 o' (z_ae (some ⟨T.ty_api_Ins, 5, 40, [(.int .i64 0), (.int .i64 0), (.int .i64 0), (.int .i64 0), (.int .i64 0)]⟩) 1 [(0, v11)] H) ⟨fun v12 H =>
 e' [(2, v12)] H⟩⟩)
@[simp] def r6 (fr : AFr) (H : Hp) : ARes :=
 areg (q' (bn' .eql (fr 4) (.int .i64 3)) H ⟨fun v14 H =>
 e' [(1, fr 1), (4, fr 4), (13, v14)] H⟩)
@[simp] def r7 (s0 : SpecP) (fr : AFr) (H : Hp) : ARes :=
 areg (o' (callP false s0 [[none], [none], [none]] [(.int .i64 15), (.int .i64 0), (.int .i64 0)] H) ⟨fun v15 H =>
 o' (z_ae (some ⟨T.ty_api_Ins, 5, 40, [(.int .i64 0), (.int .i64 0), (.int .i64 0), (.int .i64 0), (.int .i64 0)]⟩) 1 [(0, v15)] H) ⟨fun v16 H =>
 e' [(2, v16)] H⟩⟩)
@[simp] def r8 (fr : AFr) (H : Hp) : ARes :=
 areg (q' (bn' .eql (fr 4) (.int .i64 4)) H ⟨fun v18 H =>
 e' [(1, fr 1), (4, fr 4), (17, v18)] H⟩)
@[simp] def r9 (s1 : SpecP) (fr : AFr) (H : Hp) : ARes :=
 areg (q' (fa' 3 (fr 1)) H ⟨fun v19 H =>
 q' (ld' v19 H) H ⟨fun v20 H =>
 q' (z_du (some .i64) v20) H ⟨fun v21 H =>
 o' (callP false s1 [[none], [none]] [(.int .i64 0), v21] H) ⟨fun v22 H =>
 o' (z_ae (some ⟨T.ty_api_Ins, 5, 40, [(.int .i64 0), (.int .i64 0), (.int .i64 0), (.int .i64 0), (.int .i64 0)]⟩) 1 [(0, v22)] H) ⟨fun v23 H =>
 e' [(2, v23)] H⟩⟩⟩⟩⟩)
@[simp] def r10 (fr : AFr) (H : Hp) : ARes :=
 areg (q' (bn' .eql (fr 4) (.int .i64 5)) H ⟨fun v25 H =>
 e' [(1, fr 1), (4, fr 4), (24, v25)] H⟩)
@[simp] def r11 (fr : AFr) (H : Hp) : ARes :=
 areg (q' (fa' 3 (fr 1)) H ⟨fun v26 H =>
 q' (ld' v26 H) H ⟨fun v27 H =>
 q' (bn' .eql v27 (W32 0#32)) H ⟨fun v28 H =>
 e' [(1, fr 1), (28, v28)] H⟩⟩⟩)
@[simp] def r12 (s1 : SpecP) (fr : AFr) (H : Hp) : ARes :=
 areg (o' (callP false s1 [[none], [none]] [(.int .i64 0), (.int .i64 0)] H) ⟨fun v29 H =>
 o' (z_ae (some ⟨T.ty_api_Ins, 5, 40, [(.int .i64 0), (.int .i64 0), (.int .i64 0), (.int .i64 0), (.int .i64 0)]⟩) 1 [(0, v29)] H) ⟨fun v30 H =>
 e' [(2, v30)] H⟩⟩)
@[simp] def r13 (fr : AFr) (H : Hp) : ARes :=
 areg (q' (fa' 3 (fr 1)) H ⟨fun v31 H =>
 q' (ld' v31 H) H ⟨fun v32 H =>
 q' (z_du (some .i64) v32) H ⟨fun v33 H =>
 q' (z_a3 (.str [(.int .i64 0), (.int .i64 0), (.int .i64 0), (.int .i64 0), (.int .i64 0)] [(0, 1), (1, 1), (2, 1), (3, 1), (4, 1)]) [(0, (.int .i64 5)), (1, (.int .i64 0)), (3, (.int .i64 0)), (4, v33)]) H ⟨fun v34 H =>
 o' (z_ae (some ⟨T.ty_api_Ins, 5, 40, [(.int .i64 0), (.int .i64 0), (.int .i64 0), (.int .i64 0), (.int .i64 0)]⟩) 1 [(0, v34)] H) ⟨fun v35 H =>
 e' [(2, v35)] H⟩⟩⟩⟩⟩)
@[simp] def r14 (fr : AFr) (H : Hp) : ARes :=
 areg (q' (bn' .eql (fr 4) (.int .i64 6)) H ⟨fun v37 H =>
 e' [(1, fr 1), (4, fr 4), (36, v37)] H⟩)
@[simp] def r15 (s0 s2 : SpecP) (fr : AFr) (H : Hp) : ARes :=
 areg (q' (fa' 3 (fr 1)) H ⟨fun v38 H =>
 q' (ld' v38 H) H ⟨fun v39 H =>
 q' (bn' .sub (W32 32#32) v39) H ⟨fun v40 H =>
 q' (bn' .rem v40 (W32 32#32)) H ⟨fun v41 H =>
 q' (z_du (some .i64) v41) H ⟨fun v42 H =>
 o' (callP false s2 [[none], [none]] [(.int .i64 2), v42] H) ⟨fun v43 H =>
 o' (callP false s0 [[none], [none], [none]] [(.int .i64 7), (.int .i64 0), (.int .i64 2)] H) ⟨fun v44 H =>
 o' (z_ae (some ⟨T.ty_api_Ins, 5, 40, [(.int .i64 0), (.int .i64 0), (.int .i64 0), (.int .i64 0), (.int .i64 0)]⟩) 2 [(0, v43), (1, v44)] H) ⟨fun v45 H =>
 e' [(2, v45)] H⟩⟩⟩⟩⟩⟩⟩⟩)
@[simp] def r16 (fr : AFr) (H : Hp) : ARes :=
 areg (q' (bn' .eql (fr 4) (.int .i64 7)) H ⟨fun v47 H =>
 e' [(1, fr 1), (4, fr 4), (46, v47)] H⟩)
@[simp] def r17 (s3 : SpecP) (fr : AFr) (H : Hp) : ARes :=
 areg (q' (fa' 3 (fr 1)) H ⟨fun v48 H =>
 q' (ld' v48 H) H ⟨fun v49 H =>
 o' (callP false s3 [[none]] [v49] H) ⟨fun v50 H =>
 e' [(2, v50)] H⟩⟩⟩)
@[simp] def r18 (fr : AFr) (H : Hp) : ARes :=
 areg (q' (bn' .eql (fr 4) (.int .i64 0)) H ⟨fun v52 H =>
 e' [(51, v52)] H⟩)
@[simp] def r19 (fr : AFr) (H : Hp) : ARes :=
 areg (q' (z_a3 (.str [(.int .i64 0), (.int .i64 0), (.int .i64 0), (.int .i64 0), (.int .i64 0)] [(0, 1), (1, 1), (2, 1), (3, 1), (4, 1)]) [(0, (.int .i64 12)), (1, (.int .i64 0)), (2, (.int .i64 5))]) H ⟨fun v53 H =>
 o' (z_ae (some ⟨T.ty_api_Ins, 5, 40, [(.int .i64 0), (.int .i64 0), (.int .i64 0), (.int .i64 0), (.int .i64 0)]⟩) 1 [(0, v53)] H) ⟨fun v54 H =>
 e' [(2, v54)] H⟩⟩)
@[simp] def r20 (fr : AFr) (H : Hp) : ARes :=
 areg (e' [(2, .nils)] H)
@[simp] def body (s0 s1 s2 s3 : SpecP) (fr : AFr) (H : Hp) : ARes :=
 s' (r0 fr H) ⟨fun fr H =>
 s' (s' (r1 fr H) ⟨fun fr H =>
 aexit 0 (s' (r2 fr H) ⟨fun fr H =>
 c' (fr 5)
 ⟨s' (r3 s0 fr H) ⟨fun fr H =>
 some (.ret, fr, H)⟩⟩
 ⟨s' (r4 fr H) ⟨fun fr H =>
 c' (fr 9)
 ⟨s' (r5 s0 fr H) ⟨fun fr H =>
 some (.ret, fr, H)⟩⟩
 ⟨s' (r6 fr H) ⟨fun fr H =>
 c' (fr 13)
 ⟨s' (r7 s0 fr H) ⟨fun fr H =>
 some (.ret, fr, H)⟩⟩
 ⟨s' (r8 fr H) ⟨fun fr H =>
 c' (fr 17)
 ⟨s' (r9 s1 fr H) ⟨fun fr H =>
 some (.ret, fr, H)⟩⟩
 ⟨s' (r10 fr H) ⟨fun fr H =>
 c' (fr 24)
 ⟨s' (s' (r11 fr H) ⟨fun fr H =>
 c' (fr 28)
 ⟨s' (r12 s1 fr H) ⟨fun fr H =>
 some (.ret, fr, H)⟩⟩
 ⟨some (.normal, fr, H)⟩⟩) ⟨fun fr H =>
 s' (r13 fr H) ⟨fun fr H =>
 some (.ret, fr, H)⟩⟩⟩
 ⟨s' (r14 fr H) ⟨fun fr H =>
 c' (fr 36)
 ⟨s' (r15 s0 s2 fr H) ⟨fun fr H =>
 some (.ret, fr, H)⟩⟩
 ⟨s' (r16 fr H) ⟨fun fr H =>
 c' (fr 46)
 ⟨s' (r17 s3 fr H) ⟨fun fr H =>
 some (.ret, fr, H)⟩⟩
 ⟨s' (r18 fr H) ⟨fun fr H =>
 c' (fr 51)
 ⟨s' (r19 fr H) ⟨fun fr H =>
 some (.ret, fr, H)⟩⟩
 ⟨some (.normal, fr, H)⟩⟩⟩⟩⟩⟩⟩⟩⟩⟩⟩⟩⟩⟩⟩⟩)⟩) ⟨fun fr H =>
 s' (r20 fr H) ⟨fun fr H =>
 some (.ret, fr, H)⟩⟩⟩
@[simp] def res (fr : AFr) (H : Hp) : Option (List AV) := res2 (some (fr 2)) (some [])
end z_bq
def z_bq (a0 : AV) : Option AV := z_ap (some [[some 5]]) (afinR z_bq.res (z_bq.body z_ec.spec z_cm.spec z_cp.spec z_bn.spec (args0 [a0]) Hp.empty))
def z_bq.spec : List AV → Option AV
 | [a0] => z_bq a0
 | _ => none
namespace z_ea
def C (s0 : SpecM) : Tab := (Tab.none.add 77 (.ref [false] s0))
@[simp] def r0 (fr : AFr) (H : Hp) : ARes :=
 areg (e' [(0, fr 0)] H)
@[simp] def r1 (s0 : SpecM) (fr : AFr) (H : Hp) : ARes :=
 areg (o' (callM [false] s0 [[none]] [(fr 0)] H) ⟨fun v4 H =>
 q' (z_a3 (.str [(.int .i64 0), (.int .i64 0), (.int .i64 0), (.int .i64 0), (.int .i64 0)] [(0, 1), (1, 1), (2, 1), (3, 1), (4, 1)]) [(0, (.int .i64 15)), (1, (.int .i64 0)), (2, (.int .i64 7)), (3, (.int .i64 6))]) H ⟨fun v5 H =>
 o' (z_ae (some ⟨T.ty_api_Ins, 5, 40, [(.int .i64 0), (.int .i64 0), (.int .i64 0), (.int .i64 0), (.int .i64 0)]⟩) 1 [(0, v5)] H) ⟨fun v6 H =>
 o' (z_bt (some ⟨T.ty_api_Ins, 5, 40, [(.int .i64 0), (.int .i64 0), (.int .i64 0), (.int .i64 0), (.int .i64 0)]⟩) v4 v6 H) ⟨fun v7 H =>
 e' [(2, v7)] H⟩⟩⟩⟩)
@[simp] def body (s0 : SpecM) (fr : AFr) (H : Hp) : ARes :=
 s' (r0 fr H) ⟨fun fr H =>
 s' (r1 s0 fr H) ⟨fun fr H =>
 some (.ret, fr, H)⟩⟩
@[simp] def res (fr : AFr) (H : Hp) : Option (List AV) := res2 (some (fr 2)) (some [])
end z_ea
def z_ea (a0 : AV) : Option AV := z_ap (some [[some 5]]) (afinR z_ea.res (z_ea.body z_ci.spec (args0 [a0]) Hp.empty))
def z_ea.spec : List AV → Option AV
 | [a0] => z_ea a0
 | _ => none
namespace z_at
def C : Tab := Tab.none
@[simp] def r0 (fr : AFr) (H : Hp) : ARes :=
 areg (e' [(0, fr 0), (1, fr 1)] H)
@[simp] def r1 (fr : AFr) (H : Hp) : ARes :=
 areg (q' (bn' .lss (fr 1) (.int .i64 0)) H ⟨fun v6 H =>
 e' [(0, fr 0), (1, fr 1), (6, v6)] H⟩)
@[simp] def r2 (fr : AFr) (H : Hp) : ARes :=
 areg (q' (none) H ⟨fun v7 H =>
 q' (none) H ⟨fun _ H =>
 e' [(0, fr 0), (1, fr 1)] H⟩⟩)
@[simp] def r3 (fr : AFr) (H : Hp) : ARes :=
 areg (q' (acapR .sl (fr 0)) H ⟨fun v10 H =>
 q' (alenR .sl (fr 0)) H ⟨fun v12 H =>
 q' (bn' .sub v10 v12) H ⟨fun v13 H =>
 q' (bn' .sub (fr 1) v13) H ⟨fun v14 H =>
 e' [(0, fr 0), (1, v14)] H⟩⟩⟩⟩)
@[simp] def r4 (fr : AFr) (H : Hp) : ARes :=
 areg (q' (bn' .gtr (fr 1) (.int .i64 0)) H ⟨fun v16 H =>
 e' [(0, fr 0), (1, fr 1), (16, v16)] H⟩)
@[simp] def r5 (fr : AFr) (H : Hp) : ARes :=
 areg (q' (acapR .sl (fr 0)) H ⟨fun v19 H =>
 q' (z_fy (.sl 5) (fr 0) none (some v19) none) H ⟨fun v20 H =>
 o' (z_e3 true (some ⟨T.ty_api_Ins, 5, 40, [(.int .i64 0), (.int .i64 0), (.int .i64 0), (.int .i64 0), (.int .i64 0)]⟩) v20 (fr 1) H) ⟨fun v22 H =>
 q' (alenR .sl (fr 0)) H ⟨fun v24 H =>
 q' (z_fy (.sl 5) v22 none (some v24) none) H ⟨fun v25 H =>
 e' [(0, v25)] H⟩⟩⟩⟩⟩)
@[simp] def r6 (fr : AFr) (H : Hp) : ARes :=
 areg (e' [(4, (fr 0))] H)
@[simp] def body (fr : AFr) (H : Hp) : ARes :=
 s' (r0 fr H) ⟨fun fr H =>
 s' (s' (r1 fr H) ⟨fun fr H =>
 c' (fr 6)
 ⟨r2 fr H⟩
 ⟨some (.normal, fr, H)⟩⟩) ⟨fun fr H =>
 s' (s' (r3 fr H) ⟨fun fr H =>
 s' (r4 fr H) ⟨fun fr H =>
 c' (fr 16)
 ⟨r5 fr H⟩
 ⟨some (.normal, fr, H)⟩⟩⟩) ⟨fun fr H =>
 s' (r6 fr H) ⟨fun fr H =>
 some (.ret, fr, H)⟩⟩⟩⟩
@[simp] def res (fr : AFr) (H : Hp) : Option (List AV) := res2 (some (fr 4)) (some [])
end z_at
def z_at (a0 a1 : AV) (H : Hp) : Option (AV × Hp) := raw (afinR z_at.res (z_at.body (args0 [a0, a1]) H))
def z_at.spec : List AV → Hp → Option (AV × Hp)
 | [a0, a1], H => z_at a0 a1 H
 | _, _ => none
namespace z_aj
def C (s0 : SpecM) : Tab := (Tab.none.add 158 (.ref [false, false] s0))
@[simp] def r0 (fr : AFr) (H : Hp) : ARes :=
 areg (e' [(0, fr 0)] H)
@[simp] def r1 (fr : AFr) (H : Hp) : ARes :=
 areg (e' [(0, fr 0), (3, (.int .i64 0))] H)
@[simp] def r2 (fr : AFr) (H : Hp) : ARes :=
 areg (q' (alenR .sl (fr 0)) H ⟨fun v10 H =>
 e' [(0, fr 0), (3, fr 3), (9, (fr 0)), (10, v10), (11, (.int .i64 0))] H⟩)
@[simp] def r3 (fr : AFr) (H : Hp) : ARes :=
 areg (q' (bn' .lss (fr 11) (fr 10)) H ⟨fun v12 H =>
 e' [(0, fr 0), (3, fr 3), (9, fr 9), (10, fr 10), (11, fr 11), (12, v12)] H⟩)
@[simp] def r4 (fr : AFr) (H : Hp) : ARes :=
 areg (q' (z_aa (.sl 1) (fr 9) (fr 11)) H ⟨fun v13 H =>
 q' (ld' v13 H) H ⟨fun v14 H =>
 e' [(0, fr 0), (3, fr 3), (5, v14), (9, fr 9), (10, fr 10), (11, fr 11)] H⟩⟩)
@[simp] def r5 (fr : AFr) (H : Hp) : ARes :=
 areg (q' (alenR .sl (fr 5)) H ⟨fun v17 H =>
 q' (bn' .add (fr 3) v17) H ⟨fun v18 H =>
 e' [(0, fr 0), (3, v18), (9, fr 9), (10, fr 10), (11, fr 11)] H⟩⟩)
@[simp] def r6 (fr : AFr) (H : Hp) : ARes :=
 areg (q' (bn' .lss (fr 3) (.int .i64 0)) H ⟨fun v20 H =>
 e' [(0, fr 0), (3, fr 3), (9, fr 9), (10, fr 10), (11, fr 11), (20, v20)] H⟩)
@[simp] def r7 (fr : AFr) (H : Hp) : ARes :=
 areg (q' (none) H ⟨fun v21 H =>
 q' (none) H ⟨fun _ H =>
 e' [(0, fr 0), (3, fr 3), (9, fr 9), (10, fr 10), (11, fr 11)] H⟩⟩)
@[simp] def r8 (fr : AFr) (H : Hp) : ARes :=
 areg (q' (bn' .add (fr 11) (.int .i64 1)) H ⟨fun v22 H =>
 e' [(0, fr 0), (3, fr 3), (9, fr 9), (10, fr 10), (11, v22)] H⟩)
@[simp] def r9 (s0 : SpecM) (fr : AFr) (H : Hp) : ARes :=
 areg (o' (callM [false, false] s0 [[some 5], [none]] [.nils, (fr 3)] H) ⟨fun v24 H =>
 e' [(0, fr 0), (6, v24)] H⟩)
@[simp] def r10 (fr : AFr) (H : Hp) : ARes :=
 areg (q' (alenR .sl (fr 0)) H ⟨fun v26 H =>
 e' [(6, fr 6), (25, (fr 0)), (26, v26), (27, (.int .i64 0))] H⟩)
@[simp] def r11 (fr : AFr) (H : Hp) : ARes :=
 areg (q' (bn' .lss (fr 27) (fr 26)) H ⟨fun v28 H =>
 e' [(6, fr 6), (25, fr 25), (26, fr 26), (27, fr 27), (28, v28)] H⟩)
@[simp] def r12 (fr : AFr) (H : Hp) : ARes :=
 areg (q' (z_aa (.sl 1) (fr 25) (fr 27)) H ⟨fun v29 H =>
 q' (ld' v29 H) H ⟨fun v30 H =>
 e' [(6, fr 6), (8, v30), (25, fr 25), (26, fr 26), (27, fr 27)] H⟩⟩)
@[simp] def r13 (fr : AFr) (H : Hp) : ARes :=
 areg (o' (z_bt (some ⟨T.ty_api_Ins, 5, 40, [(.int .i64 0), (.int .i64 0), (.int .i64 0), (.int .i64 0), (.int .i64 0)]⟩) (fr 6) (fr 8) H) ⟨fun v33 H =>
 e' [(6, v33), (25, fr 25), (26, fr 26), (27, fr 27)] H⟩)
@[simp] def r14 (fr : AFr) (H : Hp) : ARes :=
 areg (q' (bn' .add (fr 27) (.int .i64 1)) H ⟨fun v34 H =>
 e' [(6, fr 6), (25, fr 25), (26, fr 26), (27, v34)] H⟩)
@[simp] def r15 (fr : AFr) (H : Hp) : ARes :=
 areg (e' [(2, (fr 6))] H)
def l0 (s0 : SpecM) (fr : AFr) (H : Hp) : ARes :=
 s' (r3 fr H) ⟨fun fr H =>
 s' (c' (fr 12)
 ⟨some (.normal, fr, H)⟩
 ⟨some (.exit 0, fr, H)⟩) ⟨fun fr H =>
 s' (aexit 1 (s' (r4 fr H) ⟨fun fr H =>
 s' (r5 fr H) ⟨fun fr H =>
 s' (r6 fr H) ⟨fun fr H =>
 c' (fr 20)
 ⟨r7 fr H⟩
 ⟨some (.normal, fr, H)⟩⟩⟩⟩)) ⟨fun fr H =>
 r8 fr H⟩⟩⟩
def l1 (s0 : SpecM) (fr : AFr) (H : Hp) : ARes :=
 s' (r11 fr H) ⟨fun fr H =>
 s' (c' (fr 28)
 ⟨some (.normal, fr, H)⟩
 ⟨some (.exit 2, fr, H)⟩) ⟨fun fr H =>
 s' (aexit 3 (s' (r12 fr H) ⟨fun fr H =>
 r13 fr H⟩)) ⟨fun fr H =>
 r14 fr H⟩⟩⟩
@[simp] def body (s0 : SpecM) (fr : AFr) (H : Hp) : ARes :=
 s' (r0 fr H) ⟨fun fr H =>
 s' (r1 fr H) ⟨fun fr H =>
 s' (s' (r2 fr H) ⟨fun fr H =>
 aexit 0 (aloop (l0 s0) fr H)⟩) ⟨fun fr H =>
 s' (r9 s0 fr H) ⟨fun fr H =>
 s' (s' (r10 fr H) ⟨fun fr H =>
 aexit 2 (aloop (l1 s0) fr H)⟩) ⟨fun fr H =>
 s' (r15 fr H) ⟨fun fr H =>
 some (.ret, fr, H)⟩⟩⟩⟩⟩⟩
@[simp] def res (fr : AFr) (H : Hp) : Option (List AV) := res2 (some (fr 2)) (some [])
end z_aj
def z_aj (a0 : AV) (H : Hp) : Option (AV × Hp) := raw (afinR z_aj.res (z_aj.body z_at.spec (args0 [a0]) H))
def z_aj.spec : List AV → Hp → Option (AV × Hp)
 | [a0], H => z_aj a0 H
 | _, _ => none
namespace z_ck
def C (s0 s1 s2 s3 : SpecP) (s4 : SpecM) : Tab := (((((Tab.none.add 78 (.pure false s0)).add 115 (.pure false s1)).add 117 (.pure false s2)).add 118 (.pure false s3)).add 116 (.ref [false] s4))
@[simp] def r0 (fr : AFr) (H : Hp) : ARes :=
 areg (o' (abox T.ty_api_Op (fr 0) H) ⟨fun v3 H =>
 e' [(1, fr 1), (2, fr 2), (3, v3)] H⟩)
@[simp] def r1 (s0 : SpecP) (fr : AFr) (H : Hp) : ARes :=
 areg (o' (callP false s0 [[none], [none]] [(.int .i64 0), (.int .i64 0)] H) ⟨fun v10 H =>
 o' (z_ae (some ⟨T.ty_api_Ins, 5, 40, [(.int .i64 0), (.int .i64 0), (.int .i64 0), (.int .i64 0), (.int .i64 0)]⟩) 1 [(0, v10)] H) ⟨fun v11 H =>
 e' [(1, fr 1), (2, fr 2), (3, fr 3), (7, v11)] H⟩⟩)
@[simp] def r2 (fr : AFr) (H : Hp) : ARes :=
 areg (q' (alenR .sl (fr 2)) H ⟨fun v13 H =>
 q' (bn' .gtr v13 (.int .i64 1)) H ⟨fun v14 H =>
 e' [(1, fr 1), (2, fr 2), (3, fr 3), (7, fr 7), (14, v14)] H⟩⟩)
@[simp] def r3 (s0 : SpecP) (fr : AFr) (H : Hp) : ARes :=
 areg (o' (callP false s0 [[none], [none]] [(.int .i64 1), (.int .i64 0)] H) ⟨fun v16 H =>
 o' (z_ae (some ⟨T.ty_api_Ins, 5, 40, [(.int .i64 0), (.int .i64 0), (.int .i64 0), (.int .i64 0), (.int .i64 0)]⟩) 1 [(0, v16)] H) ⟨fun v17 H =>
 o' (z_bt (some ⟨T.ty_api_Ins, 5, 40, [(.int .i64 0), (.int .i64 0), (.int .i64 0), (.int .i64 0), (.int .i64 0)]⟩) (fr 7) v17 H) ⟨fun v18 H =>
 e' [(1, fr 1), (2, fr 2), (3, fr 3), (7, v18)] H⟩⟩⟩)
@[simp] def r4 (fr : AFr) (H : Hp) : ARes :=
 areg (q' (alenR .sl (fr 2)) H ⟨fun v20 H =>
 e' [(1, fr 1), (3, fr 3), (7, fr 7), (19, (fr 2)), (20, v20), (21, (.int .i64 0))] H⟩)
@[simp] def r5 (fr : AFr) (H : Hp) : ARes :=
 areg (q' (bn' .lss (fr 21) (fr 20)) H ⟨fun v22 H =>
 e' [(1, fr 1), (3, fr 3), (7, fr 7), (19, fr 19), (20, fr 20), (21, fr 21), (22, v22)] H⟩)
@[simp] def r6 (fr : AFr) (H : Hp) : ARes :=
 areg (q' (z_aa (.sl 1) (fr 19) (fr 21)) H ⟨fun v24 H =>
 q' (ld' v24 H) H ⟨fun v25 H =>
 e' [(1, fr 1), (3, fr 3), (7, fr 7), (8, (fr 21)), (9, v25), (19, fr 19), (20, fr 20), (21, fr 21)] H⟩⟩)
@[simp] def r7 (s1 : SpecP) (fr : AFr) (H : Hp) : ARes :=
 areg (q' (bn' .add (.int .i64 0) (fr 8)) H ⟨fun v28 H =>
 o' (callP false s1 [[none], [none]] [v28, (fr 9)] H) ⟨fun v30 H =>
 o' (z_bt (some ⟨T.ty_api_Ins, 5, 40, [(.int .i64 0), (.int .i64 0), (.int .i64 0), (.int .i64 0), (.int .i64 0)]⟩) (fr 7) v30 H) ⟨fun v31 H =>
 e' [(1, fr 1), (3, fr 3), (7, v31), (19, fr 19), (20, fr 20), (21, fr 21)] H⟩⟩⟩)
@[simp] def r8 (fr : AFr) (H : Hp) : ARes :=
 areg (q' (bn' .add (fr 21) (.int .i64 1)) H ⟨fun v32 H =>
 e' [(1, fr 1), (3, fr 3), (7, fr 7), (19, fr 19), (20, fr 20), (21, v32)] H⟩)
@[simp] def r9 (s2 s3 : SpecP) (s4 : SpecM) (fr : AFr) (H : Hp) : ARes :=
 areg (q' (Ld' 4 (fr 3) H) H ⟨fun v34 H =>
 o' (callP false s2 [[none, none, none, none]] [v34] H) ⟨fun v35 H =>
 o' (callP false s3 [[none]] [(fr 1)] H) ⟨fun v37 H =>
 o' (z_ae (some ⟨T.ty_sl_api_Ins, 1, 24, [.nils]⟩) 3 [(0, (fr 7)), (1, v35), (2, v37)] H) ⟨fun v38 H =>
 o' (callM [false] s4 [[some 1]] [v38] H) ⟨fun v39 H =>
 e' [(6, v39)] H⟩⟩⟩⟩⟩)
def l0 (s0 s1 s2 s3 : SpecP) (s4 : SpecM) (fr : AFr) (H : Hp) : ARes :=
 s' (r5 fr H) ⟨fun fr H =>
 s' (c' (fr 22)
 ⟨some (.normal, fr, H)⟩
 ⟨some (.exit 0, fr, H)⟩) ⟨fun fr H =>
 s' (aexit 1 (s' (r6 fr H) ⟨fun fr H =>
 r7 s1 fr H⟩)) ⟨fun fr H =>
 r8 fr H⟩⟩⟩
@[simp] def body (s0 s1 s2 s3 : SpecP) (s4 : SpecM) (fr : AFr) (H : Hp) : ARes :=
 s' (r0 fr H) ⟨fun fr H =>
 s' (r1 s0 fr H) ⟨fun fr H =>
 s' (s' (r2 fr H) ⟨fun fr H =>
 c' (fr 14)
 ⟨r3 s0 fr H⟩
 ⟨some (.normal, fr, H)⟩⟩) ⟨fun fr H =>
 s' (s' (r4 fr H) ⟨fun fr H =>
 aexit 0 (aloop (l0 s0 s1 s2 s3 s4) fr H)⟩) ⟨fun fr H =>
 s' (r9 s2 s3 s4 fr H) ⟨fun fr H =>
 some (.ret, fr, H)⟩⟩⟩⟩⟩
@[simp] def res (fr : AFr) (H : Hp) : Option (List AV) := res2 (some (fr 6)) (some [])
end z_ck
def z_ck (a0 a1 a2 : AV) : Option AV := z_ap (some [[some 5]]) (afinR z_ck.res (z_ck.body z_cp.spec z_eb.spec z_bq.spec z_ea.spec z_aj.spec (args0 [a0, a1, a2]) Hp.empty))
def z_ck.spec : List AV → Option AV
 | [a0, a1, a2] => z_ck a0 a1 a2
 | _ => none
namespace z_cy
def C (s0 s1 s2 : SpecP) (s3 : SpecM) (s4 : SpecP) : Tab := (((((Tab.none.add 68 (.pure false s0)).add 69 (.pure false s1)).add 70 (.pure false s2)).add 71 (.ref [true, false] s3)).add 73 (.pure false s4))
@[simp] def r0 (fr : AFr) (H : Hp) : ARes :=
 areg (o' (abox T.ty_api_Op (fr 0) H) ⟨fun v3 H =>
 e' [(1, fr 1), (2, fr 2), (3, v3)] H⟩)
@[simp] def r1 (fr : AFr) (H : Hp) : ARes :=
 areg (q' (fa' 1 (fr 3)) H ⟨fun v8 H =>
 w' (z_ac (some 1) v8 (.int .i64 0) H) ⟨fun _ H =>
 q' (fa' 2 (fr 3)) H ⟨fun v9 H =>
 w' (z_ac (some 1) v9 (.int .i64 0) H) ⟨fun _ H =>
 e' [(1, fr 1), (2, fr 2), (3, fr 3)] H⟩⟩⟩⟩)
@[simp] def r2 (fr : AFr) (H : Hp) : ARes :=
 areg (q' (Ld' 4 (fr 3) H) H ⟨fun v10 H =>
 o' (z_ae (some ⟨T.ty_api_Op, 4, 32, [(.int .i64 0), (.int .i64 0), (.int .i64 0), (W32 0#32)]⟩) 1 [(0, v10)] H) ⟨fun v11 H =>
 q' (z_a3 (.str [(.int .i64 0), .nils, .nils] [(0, 1), (1, 1), (2, 1)]) [(0, (.int .i64 1)), (1, v11)]) H ⟨fun v12 H =>
 o' (z_bo T.ty_api_Code (some (.agg [(.int .i64 0), .nils, .nils])) H) ⟨fun v7 H =>
 w' (z_ac (some 3) v7 v12 H) ⟨fun _ H =>
 e' [(1, fr 1), (2, fr 2), (3, fr 3), (7, v7)] H⟩⟩⟩⟩⟩)
@[simp] def r3 (s0 s1 s2 : SpecP) (s3 : SpecM) (fr : AFr) (H : Hp) : ARes :=
 areg (q' (Ld' 3 (fr 7) H) H ⟨fun v13 H =>
 o' (callP false s0 [[none, some 4, some 1]] [v13] H) ⟨fun v14 H =>
 q' (aun .not v14) H ⟨fun v15 H =>
 G' v15 false ⟨some (fr 2)⟩ H ⟨fun v17 H =>
 G' v15 false ⟨alenR .sl v17⟩ H ⟨fun v18 H =>
 G' v15 false ⟨fa' 0 (fr 3)⟩ H ⟨fun v19 H =>
 G' v15 false ⟨ld' v19 H⟩ H ⟨fun v20 H =>
 o' (g' (gw v15 false) ⟨callP false s1 [[none]] [v20] H⟩ H) ⟨fun v21 H =>
 G' v15 false ⟨bn' .neq v18 v21⟩ H ⟨fun v22 H =>
 q' (apick v15 (.bool true) v22) H ⟨fun v23 H =>
 G' v23 false ⟨some (fr 1)⟩ H ⟨fun v25 H =>
 o' (g' (gw v23 false) ⟨callP false s2 [[none]] [v25] H⟩ H) ⟨fun v26 H =>
 G' v23 false ⟨aun .not v26⟩ H ⟨fun v27 H =>
 q' (apick v23 (.bool true) v27) H ⟨fun v28 H =>
 G' v28 false ⟨some (fr 2)⟩ H ⟨fun v30 H =>
 o' (g' (gw v28 false) ⟨callM [true, false] s3 [[some 1], [none]] [v30, (.clo 72 [] [])] H⟩ H) ⟨fun v31 H =>
 q' (apick v28 (.bool true) v31) H ⟨fun v32 H =>
 e' [(1, fr 1), (2, fr 2), (3, fr 3), (32, v32)] H⟩⟩⟩⟩⟩⟩⟩⟩⟩⟩⟩⟩⟩⟩⟩⟩⟩)
@[simp] def r4 (fr : AFr) (H : Hp) : ARes :=
 areg (e' [(6, .nils)] H)
@[simp] def r5 (s4 : SpecP) (fr : AFr) (H : Hp) : ARes :=
 areg (q' (Ld' 4 (fr 3) H) H ⟨fun v33 H =>
 o' (callP false s4 [[none, none, none, none], [none], [some 1]] [v33, (fr 1), (fr 2)] H) ⟨fun v36 H =>
 e' [(6, v36)] H⟩⟩)
@[simp] def body (s0 s1 s2 : SpecP) (s3 : SpecM) (s4 : SpecP) (fr : AFr) (H : Hp) : ARes :=
 s' (r0 fr H) ⟨fun fr H =>
 s' (r1 fr H) ⟨fun fr H =>
 s' (r2 fr H) ⟨fun fr H =>
 s' (s' (r3 s0 s1 s2 s3 fr H) ⟨fun fr H =>
 c' (fr 32)
 ⟨s' (r4 fr H) ⟨fun fr H =>
 some (.ret, fr, H)⟩⟩
 ⟨some (.normal, fr, H)⟩⟩) ⟨fun fr H =>
 s' (r5 s4 fr H) ⟨fun fr H =>
 some (.ret, fr, H)⟩⟩⟩⟩⟩
@[simp] def res (fr : AFr) (H : Hp) : Option (List AV) := res2 (some (fr 6)) (some [])
end z_cy
def z_cy (a0 a1 a2 : AV) : Option AV := z_ap (some [[some 5]]) (afinR z_cy.res (z_cy.body z_d9.spec z_bs.spec z_cq.spec z_ak.spec z_ck.spec (args0 [a0, a1, a2]) Hp.empty))
def z_cy.spec : List AV → Option AV
 | [a0, a1, a2] => z_cy a0 a1 a2
 | _ => none
namespace z_da
def C (s0 s1 : SpecP) : Tab := ((Tab.none.add 78 (.pure false s0)).add 79 (.pure false s1))
@[simp] def r0 (fr : AFr) (H : Hp) : ARes :=
 areg (e' [] H)
@[simp] def r1 (s0 s1 : SpecP) (fr : AFr) (H : Hp) : ARes :=
 areg (o' (callP false s0 [[none], [none]] [(.int .i64 7), (.int .i64 32)] H) ⟨fun v1 H =>
 o' (callP false s1 [[none], [none]] [(.int .i64 7), (.int .i64 24)] H) ⟨fun v2 H =>
 o' (callP false s0 [[none], [none]] [(.int .i64 5), (.int .i64 64)] H) ⟨fun v3 H =>
 o' (callP false s1 [[none], [none]] [(.int .i64 5), (.int .i64 24)] H) ⟨fun v4 H =>
 o' (z_ae (some ⟨T.ty_api_Ins, 5, 40, [(.int .i64 0), (.int .i64 0), (.int .i64 0), (.int .i64 0), (.int .i64 0)]⟩) 4 [(0, v1), (1, v2), (2, v3), (3, v4)] H) ⟨fun v5 H =>
 e' [(0, v5)] H⟩⟩⟩⟩⟩)
@[simp] def body (s0 s1 : SpecP) (fr : AFr) (H : Hp) : ARes :=
 s' (r0 fr H) ⟨fun fr H =>
 s' (r1 s0 s1 fr H) ⟨fun fr H =>
 some (.ret, fr, H)⟩⟩
@[simp] def res (fr : AFr) (H : Hp) : Option (List AV) := res2 (some (fr 0)) (some [])
end z_da
def z_da : Option AV := z_ap (some [[some 5]]) (afinR z_da.res (z_da.body z_cp.spec z_cm.spec (args0 []) Hp.empty))
def z_da.spec : List AV → Option AV
 | [] => z_da
 | _ => none
namespace z_a8
def C (s0 : SpecP) : Tab := (Tab.none.add 63 (.pure false s0))
@[simp] def r0 (fr : AFr) (H : Hp) : ARes :=
 areg (e' [(0, fr 0), (1, fr 1)] H)
@[simp] def r1 (fr : AFr) (H : Hp) : ARes :=
 areg (q' (alenR .sl (fr 1)) H ⟨fun v10 H =>
 e' [(0, fr 0), (9, (fr 1)), (10, v10), (11, (.int .i64 0))] H⟩)
@[simp] def r2 (fr : AFr) (H : Hp) : ARes :=
 areg (q' (bn' .lss (fr 11) (fr 10)) H ⟨fun v12 H =>
 e' [(0, fr 0), (9, fr 9), (10, fr 10), (11, fr 11), (12, v12)] H⟩)
@[simp] def r3 (fr : AFr) (H : Hp) : ARes :=
 areg (q' (z_aa (.sl 5) (fr 9) (fr 11)) H ⟨fun v13 H =>
 q' (Ld' 5 v13 H) H ⟨fun v14 H =>
 o' (z_bo T.ty_api_Ins (some (.agg [(.int .i64 0), (.int .i64 0), (.int .i64 0), (.int .i64 0), (.int .i64 0)])) H) ⟨fun v6 H =>
 w' (z_ac (some 5) v6 v14 H) ⟨fun _ H =>
 e' [(0, fr 0), (6, v6), (9, fr 9), (10, fr 10), (11, fr 11)] H⟩⟩⟩⟩)
@[simp] def r4 (s0 : SpecP) (fr : AFr) (H : Hp) : ARes :=
 areg (q' (Ld' 5 (fr 6) H) H ⟨fun v16 H =>
 o' (callP false s0 [[none, none, none, none, none]] [v16] H) ⟨fun v17 H =>
 q' (aextract v17 0) H ⟨fun v18 H =>
 q' (aextract v17 1) H ⟨fun v19 H =>
 e' [(0, fr 0), (7, v18), (9, fr 9), (10, fr 10), (11, fr 11)] H⟩⟩⟩⟩)
@[simp] def r5 (fr : AFr) (H : Hp) : ARes :=
 areg (o' (z_ae (some ⟨T.ty_uint16, 1, 2, [(W16 0#16)]⟩) 1 [(0, (fr 7))] H) ⟨fun v22 H =>
 o' (z_bt (some ⟨T.ty_uint16, 1, 2, [(W16 0#16)]⟩) (fr 0) v22 H) ⟨fun v23 H =>
 e' [(0, v23), (9, fr 9), (10, fr 10), (11, fr 11)] H⟩⟩)
@[simp] def r6 (fr : AFr) (H : Hp) : ARes :=
 areg (q' (bn' .add (fr 11) (.int .i64 1)) H ⟨fun v24 H =>
 e' [(0, fr 0), (9, fr 9), (10, fr 10), (11, v24)] H⟩)
@[simp] def r7 (fr : AFr) (H : Hp) : ARes :=
 areg (e' [(4, (fr 0))] H)
def l0 (s0 : SpecP) (fr : AFr) (H : Hp) : ARes :=
 s' (r2 fr H) ⟨fun fr H =>
 s' (c' (fr 12)
 ⟨some (.normal, fr, H)⟩
 ⟨some (.exit 0, fr, H)⟩) ⟨fun fr H =>
 s' (aexit 1 (s' (r3 fr H) ⟨fun fr H =>
 s' (r4 s0 fr H) ⟨fun fr H =>
 r5 fr H⟩⟩)) ⟨fun fr H =>
 r6 fr H⟩⟩⟩
@[simp] def body (s0 : SpecP) (fr : AFr) (H : Hp) : ARes :=
 s' (r0 fr H) ⟨fun fr H =>
 s' (s' (r1 fr H) ⟨fun fr H =>
 aexit 0 (aloop (l0 s0) fr H)⟩) ⟨fun fr H =>
 s' (r7 fr H) ⟨fun fr H =>
 some (.ret, fr, H)⟩⟩⟩
@[simp] def res (fr : AFr) (H : Hp) : Option (List AV) := res2 (some (fr 4)) (some [])
end z_a8
def z_a8 (a0 a1 : AV) (H : Hp) : Option (AV × Hp) := raw (afinR z_a8.res (z_a8.body z_dd.spec (args0 [a0, a1]) H))
def z_a8.spec : List AV → Hp → Option (AV × Hp)
 | [a0, a1], H => z_a8 a0 a1 H
 | _, _ => none
namespace z_cd
def C (s0 : SpecP) (s1 : SpecM) (s2 : SpecP) (s3 : SpecM) (s4 s5 : SpecP) : Tab := ((((((Tab.none.add 68 (.pure false s0)).add 71 (.ref [true, false] s1)).add 29 (.pure false s2)).add 81 (.ref [false, false] s3)).add 69 (.pure false s4)).add 73 (.pure false s5))
@[simp] def r0 (fr : AFr) (H : Hp) : ARes :=
 areg (o' (abox T.ty_api_Code (fr 0) H) ⟨fun v2 H =>
 e' [(1, fr 1), (2, v2)] H⟩)
@[simp] def r1 (s0 : SpecP) (s1 : SpecM) (fr : AFr) (H : Hp) : ARes :=
 areg (q' (Ld' 3 (fr 2) H) H ⟨fun v12 H =>
 o' (callP false s0 [[none, some 4, some 1]] [v12] H) ⟨fun v13 H =>
 q' (aun .not v13) H ⟨fun v14 H =>
 G' v14 false ⟨some (fr 1)⟩ H ⟨fun v16 H =>
 G' v14 false ⟨alenR .sl v16⟩ H ⟨fun v17 H =>
 G' v14 false ⟨fa' 0 (fr 2)⟩ H ⟨fun v18 H =>
 G' v14 false ⟨ld' v18 H⟩ H ⟨fun v19 H =>
 G' v14 false ⟨fa' 1 (fr 2)⟩ H ⟨fun v20 H =>
 G' v14 false ⟨ld' v20 H⟩ H ⟨fun v21 H =>
 G' v14 false ⟨alenR .sl v21⟩ H ⟨fun v22 H =>
 G' v14 false ⟨bn' .add v19 v22⟩ H ⟨fun v23 H =>
 G' v14 false ⟨bn' .neq v17 v23⟩ H ⟨fun v24 H =>
 q' (apick v14 (.bool true) v24) H ⟨fun v25 H =>
 G' v25 false ⟨some (fr 1)⟩ H ⟨fun v27 H =>
 o' (g' (gw v25 false) ⟨callM [true, false] s1 [[some 1], [none]] [v27, (.clo 80 [] [])] H⟩ H) ⟨fun v28 H =>
 q' (apick v25 (.bool true) v28) H ⟨fun v29 H =>
 e' [(1, fr 1), (2, fr 2), (29, v29)] H⟩⟩⟩⟩⟩⟩⟩⟩⟩⟩⟩⟩⟩⟩⟩⟩)
@[simp] def r2 (fr : AFr) (H : Hp) : ARes :=
 areg (e' [(4, .nils), (5, (.int .i64 1))] H)
@[simp] def r3 (s2 : SpecP) (s3 : SpecM) (fr : AFr) (H : Hp) : ARes :=
 areg (o' (callP false s2 [] [] H) ⟨fun v30 H =>
 o' (callM [false, false] s3 [[some 1], [some 5]] [.nils, v30] H) ⟨fun v31 H =>
 e' [(1, fr 1), (2, fr 2), (6, v31)] H⟩⟩)
@[simp] def r4 (fr : AFr) (H : Hp) : ARes :=
 areg (q' (fa' 1 (fr 2)) H ⟨fun v32 H =>
 q' (ld' v32 H) H ⟨fun v33 H =>
 q' (alenR .sl v33) H ⟨fun v34 H =>
 e' [(1, fr 1), (2, fr 2), (6, fr 6), (33, v33), (34, v34), (35, (.int .i64 0))] H⟩⟩⟩)
@[simp] def r5 (fr : AFr) (H : Hp) : ARes :=
 areg (q' (bn' .lss (fr 35) (fr 34)) H ⟨fun v36 H =>
 e' [(1, fr 1), (2, fr 2), (6, fr 6), (33, fr 33), (34, fr 34), (35, fr 35), (36, v36)] H⟩)
@[simp] def r6 (fr : AFr) (H : Hp) : ARes :=
 areg (q' (z_aa (.sl 4) (fr 33) (fr 35)) H ⟨fun v38 H =>
 q' (Ld' 4 v38 H) H ⟨fun v39 H =>
 o' (z_bo T.ty_api_Op (some (.agg [(.int .i64 0), (.int .i64 0), (.int .i64 0), (W32 0#32)])) H) ⟨fun v8 H =>
 w' (z_ac (some 4) v8 v39 H) ⟨fun _ H =>
 e' [(1, fr 1), (2, fr 2), (6, fr 6), (7, (fr 35)), (8, v8), (33, fr 33), (34, fr 34), (35, fr 35)] H⟩⟩⟩⟩)
@[simp] def r7 (fr : AFr) (H : Hp) : ARes :=
 areg (e' [(1, fr 1), (2, fr 2), (6, fr 6), (7, fr 7), (8, fr 8), (9, .nils), (33, fr 33), (34, fr 34), (35, fr 35)] H)
@[simp] def r8 (fr : AFr) (H : Hp) : ARes :=
 areg (q' (fa' 1 (fr 8)) H ⟨fun v40 H =>
 q' (ld' v40 H) H ⟨fun v41 H =>
 q' (fa' 2 (fr 8)) H ⟨fun v42 H =>
 q' (ld' v42 H) H ⟨fun v43 H =>
 q' (z_a3 (.arr [(.int .i64 0), (.int .i64 0)] 1) [(0, v41), (1, v43)]) H ⟨fun v44 H =>
 e' [(1, fr 1), (2, fr 2), (6, fr 6), (7, fr 7), (8, fr 8), (9, fr 9), (33, fr 33), (34, fr 34), (35, fr 35), (44, v44), (45, (.int .i64 0))] H⟩⟩⟩⟩⟩)
@[simp] def r9 (fr : AFr) (H : Hp) : ARes :=
 areg (q' (bn' .lss (fr 45) (.int .i64 2)) H ⟨fun v46 H =>
 e' [(1, fr 1), (2, fr 2), (6, fr 6), (7, fr 7), (8, fr 8), (9, fr 9), (33, fr 33), (34, fr 34), (35, fr 35), (44, fr 44), (45, fr 45), (46, v46)] H⟩)
@[simp] def r10 (fr : AFr) (H : Hp) : ARes :=
 areg (q' (z_fn (.arr 2 1 (some none)) (fr 44) (fr 45)) H ⟨fun v48 H =>
 e' [(1, fr 1), (2, fr 2), (6, fr 6), (7, fr 7), (8, fr 8), (9, fr 9), (10, (fr 45)), (11, v48), (33, fr 33), (34, fr 34), (35, fr 35), (44, fr 44), (45, fr 45)] H⟩)
@[simp] def r11 (s4 : SpecP) (fr : AFr) (H : Hp) : ARes :=
 areg (q' (fa' 0 (fr 8)) H ⟨fun v50 H =>
 q' (ld' v50 H) H ⟨fun v51 H =>
 o' (callP false s4 [[none]] [v51] H) ⟨fun v52 H =>
 q' (bn' .lss (fr 10) v52) H ⟨fun v53 H =>
 e' [(1, fr 1), (2, fr 2), (6, fr 6), (7, fr 7), (8, fr 8), (9, fr 9), (11, fr 11), (33, fr 33), (34, fr 34), (35, fr 35), (44, fr 44), (45, fr 45), (53, v53)] H⟩⟩⟩⟩)
@[simp] def r12 (fr : AFr) (H : Hp) : ARes :=
 areg (q' (z_aa (.sl 1) (fr 1) (fr 11)) H ⟨fun v57 H =>
 q' (ld' v57 H) H ⟨fun v58 H =>
 o' (z_ae (some ⟨T.ty_int, 1, 8, [(.int .i64 0)]⟩) 1 [(0, v58)] H) ⟨fun v59 H =>
 o' (z_bt (some ⟨T.ty_int, 1, 8, [(.int .i64 0)]⟩) (fr 9) v59 H) ⟨fun v60 H =>
 e' [(1, fr 1), (2, fr 2), (6, fr 6), (7, fr 7), (8, fr 8), (9, v60), (33, fr 33), (34, fr 34), (35, fr 35), (44, fr 44), (45, fr 45)] H⟩⟩⟩⟩)
@[simp] def r13 (fr : AFr) (H : Hp) : ARes :=
 areg (q' (bn' .add (fr 45) (.int .i64 1)) H ⟨fun v61 H =>
 e' [(1, fr 1), (2, fr 2), (6, fr 6), (7, fr 7), (8, fr 8), (9, fr 9), (33, fr 33), (34, fr 34), (35, fr 35), (44, fr 44), (45, v61)] H⟩)
@[simp] def r14 (s3 : SpecM) (s5 : SpecP) (fr : AFr) (H : Hp) : ARes :=
 areg (q' (some (fr 6)) H ⟨fun v62 H1 =>
 q' (Ld' 4 (fr 8) H1) H1 ⟨fun v63 H2 =>
 q' (some (fr 1)) H2 ⟨fun v64 H3 =>
 q' (fa' 0 (fr 2)) H3 ⟨fun v65 H4 =>
 q' (ld' v65 H4) H4 ⟨fun v66 H5 =>
 q' (some (fr 7)) H5 ⟨fun v67 H6 =>
 q' (bn' .add v66 v67) H6 ⟨fun v68 H7 =>
 q' (z_aa (.sl 1) v64 v68) H7 ⟨fun v69 H8 =>
 q' (ld' v69 H8) H8 ⟨fun v70 H9 =>
 q' (some (fr 9)) H9 ⟨fun v71 H10 =>
 o' (callP false s5 [[none, none, none, none], [none], [some 1]] [v63, v70, v71] H10) ⟨fun v72 H11 =>
 o' (san H11 (callM [false, false] s3 [[some 1], [some 5]] [v62, v72] H11)) ⟨fun v73 H12 =>
 q' (some v73) H12 ⟨fun v6 H13 =>
 e' [(1, fr 1), (2, fr 2), (6, v6), (33, fr 33), (34, fr 34), (35, fr 35)] H13⟩⟩⟩⟩⟩⟩⟩⟩⟩⟩⟩⟩⟩)
@[simp] def r15 (fr : AFr) (H : Hp) : ARes :=
 areg (q' (alenR .sl (fr 6)) H ⟨fun v75 H =>
 q' (bn' .geq v75 (.int .i64 60000)) H ⟨fun v76 H =>
 e' [(1, fr 1), (2, fr 2), (6, fr 6), (33, fr 33), (34, fr 34), (35, fr 35), (76, v76)] H⟩⟩)
@[simp] def r16 (fr : AFr) (H : Hp) : ARes :=
 areg (e' [(4, .nils), (5, (.int .i64 150))] H)
@[simp] def r17 (fr : AFr) (H : Hp) : ARes :=
 areg (q' (bn' .add (fr 35) (.int .i64 1)) H ⟨fun v77 H =>
 e' [(1, fr 1), (2, fr 2), (6, fr 6), (33, fr 33), (34, fr 34), (35, v77)] H⟩)
@[simp] def r18 (s3 : SpecM) (fr : AFr) (H : Hp) : ARes :=
 areg (q' (z_a3 (.str [(.int .i64 0), (.int .i64 0), (.int .i64 0), (.int .i64 0), (.int .i64 0)] [(0, 1), (1, 1), (2, 1), (3, 1), (4, 1)]) [(0, (.int .i64 20))]) H ⟨fun v79 H =>
 o' (z_ae (some ⟨T.ty_api_Ins, 5, 40, [(.int .i64 0), (.int .i64 0), (.int .i64 0), (.int .i64 0), (.int .i64 0)]⟩) 1 [(0, v79)] H) ⟨fun v80 H =>
 o' (callM [false, false] s3 [[some 1], [some 5]] [(fr 6), v80] H) ⟨fun v81 H =>
 e' [(4, v81), (5, (.int .i64 0))] H⟩⟩⟩)
def l1 (s0 : SpecP) (s1 : SpecM) (s2 : SpecP) (s3 : SpecM) (s4 s5 : SpecP) (fr : AFr) (H : Hp) : ARes :=
 s' (r9 fr H) ⟨fun fr H =>
 s' (c' (fr 46)
 ⟨some (.normal, fr, H)⟩
 ⟨some (.exit 2, fr, H)⟩) ⟨fun fr H =>
 s' (aexit 3 (s' (r10 fr H) ⟨fun fr H =>
 s' (r11 s4 fr H) ⟨fun fr H =>
 c' (fr 53)
 ⟨r12 fr H⟩
 ⟨some (.normal, fr, H)⟩⟩⟩)) ⟨fun fr H =>
 r13 fr H⟩⟩⟩
def l0 (s0 : SpecP) (s1 : SpecM) (s2 : SpecP) (s3 : SpecM) (s4 s5 : SpecP) (fr : AFr) (H : Hp) : ARes :=
 s' (r5 fr H) ⟨fun fr H =>
 s' (c' (fr 36)
 ⟨some (.normal, fr, H)⟩
 ⟨some (.exit 0, fr, H)⟩) ⟨fun fr H =>
 s' (aexit 1 (s' (r6 fr H) ⟨fun fr H =>
 s' (r7 fr H) ⟨fun fr H =>
 s' (s' (r8 fr H) ⟨fun fr H =>
 aexit 2 (aloop (l1 s0 s1 s2 s3 s4 s5) fr H)⟩) ⟨fun fr H =>
 s' (r14 s3 s5 fr H) ⟨fun fr H =>
 s' (r15 fr H) ⟨fun fr H =>
 c' (fr 76)
 ⟨s' (r16 fr H) ⟨fun fr H =>
 some (.ret, fr, H)⟩⟩
 ⟨some (.normal, fr, H)⟩⟩⟩⟩⟩⟩)) ⟨fun fr H =>
 r17 fr H⟩⟩⟩
@[simp] def body (s0 : SpecP) (s1 : SpecM) (s2 : SpecP) (s3 : SpecM) (s4 s5 : SpecP) (fr : AFr) (H : Hp) : ARes :=
 s' (r0 fr H) ⟨fun fr H =>
 s' (s' (r1 s0 s1 fr H) ⟨fun fr H =>
 c' (fr 29)
 ⟨s' (r2 fr H) ⟨fun fr H =>
 some (.ret, fr, H)⟩⟩
 ⟨some (.normal, fr, H)⟩⟩) ⟨fun fr H =>
 s' (r3 s2 s3 fr H) ⟨fun fr H =>
 s' (s' (r4 fr H) ⟨fun fr H =>
 aexit 0 (aloop (l0 s0 s1 s2 s3 s4 s5) fr H)⟩) ⟨fun fr H =>
 s' (r18 s3 fr H) ⟨fun fr H =>
 some (.ret, fr, H)⟩⟩⟩⟩⟩
@[simp] def res (fr : AFr) (H : Hp) : Option (List AV) := res2 (some (fr 4)) (res2 (some (fr 5)) (some []))
end z_cd
def z_cd (a0 a1 : AV) : Option AV := z_ap (some [[some 1], [none]]) (afinR z_cd.res (z_cd.body z_d9.spec z_ak.spec z_da.spec z_a8.spec z_bs.spec z_ck.spec (args0 [a0, a1]) Hp.empty))
def z_cd.spec : List AV → Option AV
 | [a0, a1] => z_cd a0 a1
 | _ => none
end
end Go.Abs
end
section
namespace Go.Abs
noncomputable section
namespace z_ds
def C : Tab := Tab.none
@[simp] def r0 (fr : AFr) (H : Hp) : ARes :=
 areg (o' (abox T.ty_api_Code (fr 0) H) ⟨fun v1 H =>
 o' (z_bo T.ty_api_Code (some (.agg [(.int .i64 0), .nils, .nils])) H) ⟨fun v2 H =>
 e' [(1, v1), (2, v2)] H⟩⟩)
@[simp] def r1 (fr : AFr) (H : Hp) : ARes :=
 areg (q' (fa' 0 (fr 1)) H ⟨fun v3 H1 =>
 q' (ld' v3 H1) H1 ⟨fun v4 H2 =>
 o' (z_ae (some ⟨T.ty_api_Op, 4, 32, [(.int .i64 0), (.int .i64 0), (.int .i64 0), (W32 0#32)]⟩) 0 [] H2) ⟨fun v5 H3 =>
 q' (fa' 1 (fr 1)) H3 ⟨fun v6 H4 =>
 q' (ld' v6 H4) H4 ⟨fun v7 H5 =>
 o' (z_bt (some ⟨T.ty_api_Op, 4, 32, [(.int .i64 0), (.int .i64 0), (.int .i64 0), (W32 0#32)]⟩) v5 v7 H5) ⟨fun v8 H6 =>
 o' (z_ae (some ⟨T.ty_int, 1, 8, [(.int .i64 0)]⟩) 0 [] H6) ⟨fun v9 H7 =>
 q' (fa' 2 (fr 1)) H7 ⟨fun v10 H8 =>
 q' (ld' v10 H8) H8 ⟨fun v11 H9 =>
 o' (z_bt (some ⟨T.ty_int, 1, 8, [(.int .i64 0)]⟩) v9 v11 H9) ⟨fun v12 H10 =>
 q' (z_a3 (.str [(.int .i64 0), .nils, .nils] [(0, 1), (1, 1), (2, 1)]) [(0, v4), (1, v8), (2, v12)]) H10 ⟨fun v13 H11 =>
 w' (z_ac (some 3) (fr 2) v13 H11) ⟨fun _ H12 =>
 z_bw [z_am (some none) v3 H5 = z_am (some none) v3 H6, z_am (some none) v3 H9 = z_am (some none) v3 H10, z_am (some none) v10 H5 = z_am (some none) v10 H6] (e' [(2, fr 2)] H12)⟩⟩⟩⟩⟩⟩⟩⟩⟩⟩⟩⟩)
@[simp] def body (fr : AFr) (H : Hp) : ARes :=
 s' (r0 fr H) ⟨fun fr H =>
 s' (r1 fr H) ⟨fun fr H =>
 some (.ret, fr, H)⟩⟩
@[simp] def res (fr : AFr) (H : Hp) : Option (List AV) := res2 (z_am (some (some 3)) (fr 2) H) (some [])
end z_ds
def z_ds (a0 : AV) : Option AV := z_ap (some [[none, some 4, some 1]]) (afinR z_ds.res (z_ds.body (args0 [a0]) Hp.empty))
def z_ds.spec : List AV → Option AV
 | [a0] => z_ds a0
 | _ => none
namespace z_bv
def C : Tab := Tab.none
@[simp] def r0 (fr : AFr) (H : Hp) : ARes :=
 areg (o' (abox T.ty_api_Code (fr 0) H) ⟨fun v1 H =>
 e' [(1, v1)] H⟩)
@[simp] def r1 (fr : AFr) (H : Hp) : ARes :=
 areg (e' [(1, fr 1), (3, (.int .i64 0))] H)
@[simp] def r2 (fr : AFr) (H : Hp) : ARes :=
 areg (e' [(1, fr 1), (3, fr 3), (4, (.int .i64 0))] H)
@[simp] def r3 (fr : AFr) (H : Hp) : ARes :=
 areg (q' (fa' 1 (fr 1)) H ⟨fun v6 H =>
 q' (ld' v6 H) H ⟨fun v7 H =>
 q' (alenR .sl v7) H ⟨fun v8 H =>
 q' (bn' .lss (fr 4) v8) H ⟨fun v9 H =>
 e' [(1, fr 1), (3, fr 3), (4, fr 4), (9, v9)] H⟩⟩⟩⟩)
@[simp] def r5 (fr : AFr) (H : Hp) : ARes :=
 areg (q' (fa' 1 (fr 1)) H ⟨fun v12 H =>
 q' (ld' v12 H) H ⟨fun v13 H =>
 q' (z_aa (.sl 4) v13 (fr 4)) H ⟨fun v15 H =>
 q' (fa' 0 v15) H ⟨fun v16 H =>
 q' (ld' v16 H) H ⟨fun v17 H =>
 q' (bn' .eql v17 (.int .i64 0)) H ⟨fun v18 H =>
 e' [(1, fr 1), (3, fr 3), (4, fr 4), (18, v18)] H⟩⟩⟩⟩⟩⟩)
@[simp] def r6 (fr : AFr) (H : Hp) : ARes :=
 areg (q' (bn' .add (fr 3) (.int .i64 1)) H ⟨fun v20 H =>
 e' [(1, fr 1), (3, v20), (4, fr 4)] H⟩)
@[simp] def r4 (fr : AFr) (H : Hp) : ARes :=
 areg (q' (bn' .add (fr 4) (.int .i64 1)) H ⟨fun v11 H =>
 e' [(1, fr 1), (3, fr 3), (4, v11)] H⟩)
@[simp] def r7 (fr : AFr) (H : Hp) : ARes :=
 areg (e' [(2, (fr 3))] H)
def l0 (fr : AFr) (H : Hp) : ARes :=
 s' (s' (r3 fr H) ⟨fun fr H =>
 c' (fr 9)
 ⟨some (.normal, fr, H)⟩
 ⟨some (.exit 0, fr, H)⟩⟩) ⟨fun fr H =>
 s' (aexit 1 (s' (r5 fr H) ⟨fun fr H =>
 c' (fr 18)
 ⟨r6 fr H⟩
 ⟨some (.normal, fr, H)⟩⟩)) ⟨fun fr H =>
 r4 fr H⟩⟩
@[simp] def body (fr : AFr) (H : Hp) : ARes :=
 s' (r0 fr H) ⟨fun fr H =>
 s' (r1 fr H) ⟨fun fr H =>
 s' (s' (r2 fr H) ⟨fun fr H =>
 aexit 0 (aloop (l0) fr H)⟩) ⟨fun fr H =>
 s' (r7 fr H) ⟨fun fr H =>
 some (.ret, fr, H)⟩⟩⟩⟩
@[simp] def res (fr : AFr) (H : Hp) : Option (List AV) := res2 (some (fr 2)) (some [])
end z_bv
def z_bv (a0 : AV) : Option AV := z_ap (some [[none]]) (afinR z_bv.res (z_bv.body (args0 [a0]) Hp.empty))
def z_bv.spec : List AV → Option AV
 | [a0] => z_bv a0
 | _ => none
namespace z_a4
def C : Tab := Tab.none
@[simp] def r0 (fr : AFr) (H : Hp) : ARes :=
 areg (e' [(0, fr 0)] H)
@[simp] def r1 (fr : AFr) (H : Hp) : ARes :=
 areg (q' (bn' .eql (fr 0) (.int .i64 1)) H ⟨fun v4 H =>
 G' v4 false ⟨some (fr 0)⟩ H ⟨fun v6 H =>
 G' v4 false ⟨bn' .eql v6 (.int .i64 2)⟩ H ⟨fun v7 H =>
 q' (apick v4 (.bool true) v7) H ⟨fun v8 H =>
 e' [(0, fr 0), (8, v8)] H⟩⟩⟩⟩)
@[simp] def r2 (fr : AFr) (H : Hp) : ARes :=
 areg (e' [(2, (.int .i64 2))] H)
@[simp] def r3 (fr : AFr) (H : Hp) : ARes :=
 areg (q' (bn' .geq (fr 0) (.int .i64 3)) H ⟨fun v10 H =>
 G' v10 true ⟨some (fr 0)⟩ H ⟨fun v12 H =>
 G' v10 true ⟨bn' .leq v12 (.int .i64 6)⟩ H ⟨fun v13 H =>
 q' (apick v10 v13 (.bool false)) H ⟨fun v14 H =>
 G' v14 false ⟨some (fr 0)⟩ H ⟨fun v16 H =>
 G' v14 false ⟨bn' .eql v16 (.int .i64 8)⟩ H ⟨fun v17 H =>
 q' (apick v14 (.bool true) v17) H ⟨fun v18 H =>
 e' [(18, v18)] H⟩⟩⟩⟩⟩⟩⟩)
@[simp] def r4 (fr : AFr) (H : Hp) : ARes :=
 areg (e' [(2, (.int .i64 1))] H)
@[simp] def r5 (fr : AFr) (H : Hp) : ARes :=
 areg (e' [(2, (.int .i64 0))] H)
@[simp] def body (fr : AFr) (H : Hp) : ARes :=
 s' (r0 fr H) ⟨fun fr H =>
 s' (s' (r1 fr H) ⟨fun fr H =>
 c' (fr 8)
 ⟨s' (r2 fr H) ⟨fun fr H =>
 some (.ret, fr, H)⟩⟩
 ⟨some (.normal, fr, H)⟩⟩) ⟨fun fr H =>
 s' (s' (r3 fr H) ⟨fun fr H =>
 c' (fr 18)
 ⟨s' (r4 fr H) ⟨fun fr H =>
 some (.ret, fr, H)⟩⟩
 ⟨some (.normal, fr, H)⟩⟩) ⟨fun fr H =>
 s' (r5 fr H) ⟨fun fr H =>
 some (.ret, fr, H)⟩⟩⟩⟩
@[simp] def res (fr : AFr) (H : Hp) : Option (List AV) := res2 (some (fr 2)) (some [])
end z_a4
def z_a4 (a0 : AV) : Option AV := z_ap (some [[none]]) (afinR z_a4.res (z_a4.body (args0 [a0]) Hp.empty))
def z_a4.spec : List AV → Option AV
 | [a0] => z_a4 a0
 | _ => none
namespace z_bg
def C (s0 : SpecP) : Tab := (Tab.none.add 74 (.pure false s0))
@[simp] def r0 (fr : AFr) (H : Hp) : ARes :=
 areg (o' (abox T.ty_api_Code (fr 0) H) ⟨fun v1 H =>
 e' [(1, v1)] H⟩)
@[simp] def r1 (fr : AFr) (H : Hp) : ARes :=
 areg (q' (fa' 0 (fr 1)) H ⟨fun v8 H =>
 q' (ld' v8 H) H ⟨fun v9 H =>
 q' (bn' .lss v9 (.int .i64 0)) H ⟨fun v10 H =>
 G' v10 false ⟨fa' 0 (fr 1)⟩ H ⟨fun v12 H =>
 G' v10 false ⟨ld' v12 H⟩ H ⟨fun v13 H =>
 G' v10 false ⟨bn' .gtr v13 (.int .i64 4000)⟩ H ⟨fun v14 H =>
 q' (apick v10 (.bool true) v14) H ⟨fun v15 H =>
 G' v15 false ⟨fa' 1 (fr 1)⟩ H ⟨fun v17 H =>
 G' v15 false ⟨ld' v17 H⟩ H ⟨fun v18 H =>
 G' v15 false ⟨alenR .sl v18⟩ H ⟨fun v19 H =>
 G' v15 false ⟨bn' .gtr v19 (.int .i64 60000)⟩ H ⟨fun v20 H =>
 q' (apick v15 (.bool true) v20) H ⟨fun v21 H =>
 e' [(1, fr 1), (21, v21)] H⟩⟩⟩⟩⟩⟩⟩⟩⟩⟩⟩⟩)
@[simp] def r2 (fr : AFr) (H : Hp) : ARes :=
 areg (e' [(2, (.bool false))] H)
@[simp] def r3 (fr : AFr) (H : Hp) : ARes :=
 areg (e' [(1, fr 1), (3, (.int .i64 0))] H)
@[simp] def r4 (fr : AFr) (H : Hp) : ARes :=
 areg (q' (fa' 1 (fr 1)) H ⟨fun v23 H =>
 q' (ld' v23 H) H ⟨fun v24 H =>
 q' (alenR .sl v24) H ⟨fun v25 H =>
 q' (bn' .lss (fr 3) v25) H ⟨fun v26 H =>
 e' [(1, fr 1), (3, fr 3), (26, v26)] H⟩⟩⟩⟩)
@[simp] def r6 (fr : AFr) (H : Hp) : ARes :=
 areg (q' (fa' 1 (fr 1)) H ⟨fun v29 H =>
 q' (ld' v29 H) H ⟨fun v30 H =>
 q' (z_aa (.sl 4) v30 (fr 3)) H ⟨fun v32 H =>
 q' (Ld' 4 v32 H) H ⟨fun v33 H =>
 o' (z_bo T.ty_api_Op (some (.agg [(.int .i64 0), (.int .i64 0), (.int .i64 0), (W32 0#32)])) H) ⟨fun v4 H =>
 w' (z_ac (some 4) v4 v33 H) ⟨fun _ H =>
 e' [(1, fr 1), (3, fr 3), (4, v4)] H⟩⟩⟩⟩⟩⟩)
@[simp] def r7 (s0 : SpecP) (fr : AFr) (H : Hp) : ARes :=
 areg (q' (fa' 0 (fr 4)) H ⟨fun v34 H1 =>
 q' (ld' v34 H1) H1 ⟨fun v35 H2 =>
 o' (callP false s0 [[none]] [v35] H2) ⟨fun v36 H3 =>
 q' (fa' 0 (fr 1)) H3 ⟨fun v37 H4 =>
 q' (ld' v37 H4) H4 ⟨fun v38 H5 =>
 q' (some (fr 3)) H5 ⟨fun v39 H6 =>
 q' (bn' .add v38 v39) H6 ⟨fun v40 H7 =>
 q' (some v36) H7 ⟨fun v5 H8 =>
 q' (some v40) H8 ⟨fun v6 H9 =>
 z_bw [z_am (some none) v37 H2 = z_am (some none) v37 H3] (e' [(1, fr 1), (3, fr 3), (4, fr 4), (5, v5), (6, v6)] H9)⟩⟩⟩⟩⟩⟩⟩⟩⟩)
@[simp] def r8 (fr : AFr) (H : Hp) : ARes :=
 areg (q' (fa' 0 (fr 4)) H ⟨fun v41 H =>
 q' (ld' v41 H) H ⟨fun v42 H =>
 q' (bn' .lss v42 (.int .i64 0)) H ⟨fun v43 H =>
 G' v43 false ⟨fa' 0 (fr 4)⟩ H ⟨fun v45 H =>
 G' v43 false ⟨ld' v45 H⟩ H ⟨fun v46 H =>
 G' v43 false ⟨bn' .gtr v46 (.int .i64 8)⟩ H ⟨fun v47 H =>
 q' (apick v43 (.bool true) v47) H ⟨fun v48 H =>
 G' v48 false ⟨some (fr 5)⟩ H ⟨fun v50 H =>
 G' v48 false ⟨bn' .lss v50 (.int .i64 1)⟩ H ⟨fun v51 H =>
 G' v48 false ⟨some v51⟩ H ⟨fun v52 H =>
 G' v52 true ⟨fa' 1 (fr 4)⟩ H ⟨fun v53 H =>
 G' v52 true ⟨ld' v53 H⟩ H ⟨fun v54 H =>
 G' v52 true ⟨bn' .neq v54 (.int .i64 0)⟩ H ⟨fun v55 H =>
 G' v48 false ⟨apick v52 v55 (.bool false)⟩ H ⟨fun v56 H =>
 q' (apick v48 (.bool true) v56) H ⟨fun v57 H =>
 G' v57 false ⟨some (fr 5)⟩ H ⟨fun v59 H =>
 G' v57 false ⟨bn' .lss v59 (.int .i64 2)⟩ H ⟨fun v60 H =>
 G' v57 false ⟨some v60⟩ H ⟨fun v61 H =>
 G' v61 true ⟨fa' 2 (fr 4)⟩ H ⟨fun v62 H =>
 G' v61 true ⟨ld' v62 H⟩ H ⟨fun v63 H =>
 G' v61 true ⟨bn' .neq v63 (.int .i64 0)⟩ H ⟨fun v64 H =>
 G' v57 false ⟨apick v61 v64 (.bool false)⟩ H ⟨fun v65 H =>
 q' (apick v57 (.bool true) v65) H ⟨fun v66 H =>
 G' v66 false ⟨some (fr 5)⟩ H ⟨fun v68 H =>
 G' v66 false ⟨bn' .gtr v68 (.int .i64 0)⟩ H ⟨fun v69 H =>
 G' v66 false ⟨some v69⟩ H ⟨fun v70 H =>
 G' v70 true ⟨fa' 1 (fr 4)⟩ H ⟨fun v71 H =>
 G' v70 true ⟨ld' v71 H⟩ H ⟨fun v72 H =>
 G' v70 true ⟨bn' .lss v72 (.int .i64 0)⟩ H ⟨fun v73 H =>
 G' v70 true ⟨some v73⟩ H ⟨fun v74 H =>
 G' v74 false ⟨fa' 1 (fr 4)⟩ H ⟨fun v75 H =>
 G' v74 false ⟨ld' v75 H⟩ H ⟨fun v76 H =>
 G' v74 false ⟨some (fr 6)⟩ H ⟨fun v77 H =>
 G' v74 false ⟨bn' .geq v76 v77⟩ H ⟨fun v78 H =>
 G' v70 true ⟨apick v74 (.bool true) v78⟩ H ⟨fun v79 H =>
 G' v66 false ⟨apick v70 v79 (.bool false)⟩ H ⟨fun v80 H =>
 q' (apick v66 (.bool true) v80) H ⟨fun v81 H =>
 G' v81 false ⟨some (fr 5)⟩ H ⟨fun v83 H =>
 G' v81 false ⟨bn' .gtr v83 (.int .i64 1)⟩ H ⟨fun v84 H =>
 G' v81 false ⟨some v84⟩ H ⟨fun v85 H =>
 G' v85 true ⟨fa' 2 (fr 4)⟩ H ⟨fun v86 H =>
 G' v85 true ⟨ld' v86 H⟩ H ⟨fun v87 H =>
 G' v85 true ⟨bn' .lss v87 (.int .i64 0)⟩ H ⟨fun v88 H =>
 G' v85 true ⟨some v88⟩ H ⟨fun v89 H =>
 G' v89 false ⟨fa' 2 (fr 4)⟩ H ⟨fun v90 H =>
 G' v89 false ⟨ld' v90 H⟩ H ⟨fun v91 H =>
 G' v89 false ⟨some (fr 6)⟩ H ⟨fun v92 H =>
 G' v89 false ⟨bn' .geq v91 v92⟩ H ⟨fun v93 H =>
 G' v85 true ⟨apick v89 (.bool true) v93⟩ H ⟨fun v94 H =>
 G' v81 false ⟨apick v85 v94 (.bool false)⟩ H ⟨fun v95 H =>
 q' (apick v81 (.bool true) v95) H ⟨fun v96 H =>
 e' [(1, fr 1), (3, fr 3), (4, fr 4), (96, v96)] H⟩⟩⟩⟩⟩⟩⟩⟩⟩⟩⟩⟩⟩⟩⟩⟩⟩⟩⟩⟩⟩⟩⟩⟩⟩⟩⟩⟩⟩⟩⟩⟩⟩⟩⟩⟩⟩⟩⟩⟩⟩⟩⟩⟩⟩⟩⟩⟩⟩⟩⟩)
@[simp] def r9 (fr : AFr) (H : Hp) : ARes :=
 areg (e' [(2, (.bool false))] H)
@[simp] def r10 (fr : AFr) (H : Hp) : ARes :=
 areg (q' (fa' 0 (fr 4)) H ⟨fun v97 H =>
 q' (ld' v97 H) H ⟨fun v98 H =>
 q' (bn' .geq v98 (.int .i64 4)) H ⟨fun v99 H =>
 G' v99 true ⟨fa' 0 (fr 4)⟩ H ⟨fun v101 H =>
 G' v99 true ⟨ld' v101 H⟩ H ⟨fun v102 H =>
 G' v99 true ⟨bn' .leq v102 (.int .i64 6)⟩ H ⟨fun v103 H =>
 q' (apick v99 v103 (.bool false)) H ⟨fun v104 H =>
 G' v104 true ⟨fa' 3 (fr 4)⟩ H ⟨fun v106 H =>
 G' v104 true ⟨ld' v106 H⟩ H ⟨fun v107 H =>
 G' v104 true ⟨bn' .gtr v107 (W32 31#32)⟩ H ⟨fun v108 H =>
 q' (apick v104 v108 (.bool false)) H ⟨fun v109 H =>
 G' v109 false ⟨fa' 0 (fr 4)⟩ H ⟨fun v111 H =>
 G' v109 false ⟨ld' v111 H⟩ H ⟨fun v112 H =>
 G' v109 false ⟨bn' .lss v112 (.int .i64 4)⟩ H ⟨fun v113 H =>
 G' v109 false ⟨some v113⟩ H ⟨fun v114 H =>
 G' v114 false ⟨fa' 0 (fr 4)⟩ H ⟨fun v115 H =>
 G' v114 false ⟨ld' v115 H⟩ H ⟨fun v116 H =>
 G' v114 false ⟨bn' .eql v116 (.int .i64 8)⟩ H ⟨fun v117 H =>
 G' v109 false ⟨apick v114 (.bool true) v117⟩ H ⟨fun v118 H =>
 G' v109 false ⟨some v118⟩ H ⟨fun v119 H =>
 G' v119 true ⟨fa' 3 (fr 4)⟩ H ⟨fun v120 H =>
 G' v119 true ⟨ld' v120 H⟩ H ⟨fun v121 H =>
 G' v119 true ⟨bn' .neq v121 (W32 0#32)⟩ H ⟨fun v122 H =>
 G' v109 false ⟨apick v119 v122 (.bool false)⟩ H ⟨fun v123 H =>
 q' (apick v109 (.bool true) v123) H ⟨fun v124 H =>
 e' [(1, fr 1), (3, fr 3), (124, v124)] H⟩⟩⟩⟩⟩⟩⟩⟩⟩⟩⟩⟩⟩⟩⟩⟩⟩⟩⟩⟩⟩⟩⟩⟩⟩)
@[simp] def r11 (fr : AFr) (H : Hp) : ARes :=
 areg (e' [(2, (.bool false))] H)
@[simp] def r5 (fr : AFr) (H : Hp) : ARes :=
 areg (q' (bn' .add (fr 3) (.int .i64 1)) H ⟨fun v28 H =>
 e' [(1, fr 1), (3, v28)] H⟩)
@[simp] def r12 (fr : AFr) (H : Hp) : ARes :=
 areg (e' [(1, fr 1), (7, (.int .i64 0))] H)
@[simp] def r13 (fr : AFr) (H : Hp) : ARes :=
 areg (q' (fa' 2 (fr 1)) H ⟨fun v126 H =>
 q' (ld' v126 H) H ⟨fun v127 H =>
 q' (alenR .sl v127) H ⟨fun v128 H =>
 q' (bn' .lss (fr 7) v128) H ⟨fun v129 H =>
 e' [(1, fr 1), (7, fr 7), (129, v129)] H⟩⟩⟩⟩)
@[simp] def r15 (fr : AFr) (H : Hp) : ARes :=
 areg (q' (fa' 2 (fr 1)) H ⟨fun v132 H1 =>
 q' (ld' v132 H1) H1 ⟨fun v133 H2 =>
 q' (some (fr 7)) H2 ⟨fun v134 H3 =>
 q' (z_aa (.sl 1) v133 v134) H3 ⟨fun v135 H4 =>
 q' (ld' v135 H4) H4 ⟨fun v136 H5 =>
 q' (bn' .lss v136 (.int .i64 0)) H5 ⟨fun v137 H6 =>
 q' (some v137) H6 ⟨fun v138 H7 =>
 G' v138 false ⟨fa' 2 (fr 1)⟩ H7 ⟨fun v139 H8 =>
 G' v138 false ⟨ld' v139 H8⟩ H8 ⟨fun v140 H9 =>
 G' v138 false ⟨some (fr 7)⟩ H9 ⟨fun v141 H10 =>
 G' v138 false ⟨z_aa (.sl 1) v140 v141⟩ H10 ⟨fun v142 H11 =>
 G' v138 false ⟨ld' v142 H11⟩ H11 ⟨fun v143 H12 =>
 G' v138 false ⟨fa' 0 (fr 1)⟩ H12 ⟨fun v144 H13 =>
 G' v138 false ⟨ld' v144 H13⟩ H13 ⟨fun v145 H14 =>
 G' v138 false ⟨fa' 1 (fr 1)⟩ H14 ⟨fun v146 H15 =>
 G' v138 false ⟨ld' v146 H15⟩ H15 ⟨fun v147 H16 =>
 G' v138 false ⟨alenR .sl v147⟩ H16 ⟨fun v148 H17 =>
 G' v138 false ⟨bn' .add v145 v148⟩ H17 ⟨fun v149 H18 =>
 G' v138 false ⟨bn' .geq v143 v149⟩ H18 ⟨fun v150 H19 =>
 q' (apick v138 (.bool true) v150) H19 ⟨fun v151 H20 =>
 e' [(1, fr 1), (7, fr 7), (151, v151)] H20⟩⟩⟩⟩⟩⟩⟩⟩⟩⟩⟩⟩⟩⟩⟩⟩⟩⟩⟩⟩)
@[simp] def r16 (fr : AFr) (H : Hp) : ARes :=
 areg (e' [(2, (.bool false))] H)
@[simp] def r14 (fr : AFr) (H : Hp) : ARes :=
 areg (q' (bn' .add (fr 7) (.int .i64 1)) H ⟨fun v131 H =>
 e' [(1, fr 1), (7, v131)] H⟩)
@[simp] def r17 (fr : AFr) (H : Hp) : ARes :=
 areg (e' [(2, (.bool true))] H)
def l0 (s0 : SpecP) (fr : AFr) (H : Hp) : ARes :=
 s' (s' (r4 fr H) ⟨fun fr H =>
 c' (fr 26)
 ⟨some (.normal, fr, H)⟩
 ⟨some (.exit 0, fr, H)⟩⟩) ⟨fun fr H =>
 s' (aexit 1 (s' (r6 fr H) ⟨fun fr H =>
 s' (r7 s0 fr H) ⟨fun fr H =>
 s' (s' (r8 fr H) ⟨fun fr H =>
 c' (fr 96)
 ⟨s' (r9 fr H) ⟨fun fr H =>
 some (.ret, fr, H)⟩⟩
 ⟨some (.normal, fr, H)⟩⟩) ⟨fun fr H =>
 s' (r10 fr H) ⟨fun fr H =>
 c' (fr 124)
 ⟨s' (r11 fr H) ⟨fun fr H =>
 some (.ret, fr, H)⟩⟩
 ⟨some (.normal, fr, H)⟩⟩⟩⟩⟩)) ⟨fun fr H =>
 r5 fr H⟩⟩
def l1 (s0 : SpecP) (fr : AFr) (H : Hp) : ARes :=
 s' (s' (r13 fr H) ⟨fun fr H =>
 c' (fr 129)
 ⟨some (.normal, fr, H)⟩
 ⟨some (.exit 2, fr, H)⟩⟩) ⟨fun fr H =>
 s' (aexit 3 (s' (r15 fr H) ⟨fun fr H =>
 c' (fr 151)
 ⟨s' (r16 fr H) ⟨fun fr H =>
 some (.ret, fr, H)⟩⟩
 ⟨some (.normal, fr, H)⟩⟩)) ⟨fun fr H =>
 r14 fr H⟩⟩
@[simp] def body (s0 : SpecP) (fr : AFr) (H : Hp) : ARes :=
 s' (r0 fr H) ⟨fun fr H =>
 s' (s' (r1 fr H) ⟨fun fr H =>
 c' (fr 21)
 ⟨s' (r2 fr H) ⟨fun fr H =>
 some (.ret, fr, H)⟩⟩
 ⟨some (.normal, fr, H)⟩⟩) ⟨fun fr H =>
 s' (s' (r3 fr H) ⟨fun fr H =>
 aexit 0 (aloop (l0 s0) fr H)⟩) ⟨fun fr H =>
 s' (s' (r12 fr H) ⟨fun fr H =>
 aexit 2 (aloop (l1 s0) fr H)⟩) ⟨fun fr H =>
 s' (r17 fr H) ⟨fun fr H =>
 some (.ret, fr, H)⟩⟩⟩⟩⟩
@[simp] def res (fr : AFr) (H : Hp) : Option (List AV) := res2 (some (fr 2)) (some [])
end z_bg
def z_bg (a0 : AV) : Option AV := z_ap (some [[none]]) (afinR z_bg.res (z_bg.body z_a4.spec (args0 [a0]) Hp.empty))
def z_bg.spec : List AV → Option AV
 | [a0] => z_bg a0
 | _ => none
end
end Go.Abs
end
