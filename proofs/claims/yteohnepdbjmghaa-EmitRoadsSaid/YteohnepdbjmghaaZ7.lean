/-
  The functions, as they are over abstract values. Printed by gen.py.
-/
import Derived.Test.YteohnepdbjmghaaZ4
set_option linter.unusedSimpArgs false
set_option linter.unusedVariables false
set_option maxHeartbeats 20000000
set_option maxRecDepth 100000
section
namespace Go.Abs
noncomputable section
namespace z_c0
def C : Tab := Tab.none
@[simp] def r0 (fr : AFr) (H : Hp) : ARes :=
 areg (o' (abox T.ty_api_State (fr 0) H) ⟨fun v2 H =>
 o' (z_bo T.ty_api_State (some (.agg [(W32 0#32), (W32 0#32), (W32 0#32), (W32 0#32), (W32 0#32), (W32 0#32), (W32 0#32), (W32 0#32), (W32 0#32), (.bool false), (.bool false), (.bool false), (.bool false)])) H) ⟨fun v4 H =>
 e' [(1, fr 1), (2, v2), (4, v4)] H⟩⟩)
@[simp] def r1 (fr : AFr) (H : Hp) : ARes :=
 areg (q' (bn' .geq (fr 1) (W32 2147483648#32)) H ⟨fun v6 H =>
 q' (bn' .eql (fr 1) (W32 0#32)) H ⟨fun v8 H =>
 q' (fa' 9 (fr 2)) H ⟨fun v9 H =>
 w' (z_ac (some 1) v9 v6 H) ⟨fun _ H =>
 q' (fa' 10 (fr 2)) H ⟨fun v10 H =>
 w' (z_ac (some 1) v10 v8 H) ⟨fun _ H =>
 e' [(2, fr 2), (4, fr 4)] H⟩⟩⟩⟩⟩⟩)
@[simp] def r2 (fr : AFr) (H : Hp) : ARes :=
 areg (q' (Ld' 13 (fr 2) H) H ⟨fun v11 H =>
 w' (z_ac (some 13) (fr 4) v11 H) ⟨fun _ H =>
 e' [(4, fr 4)] H⟩⟩)
@[simp] def body (fr : AFr) (H : Hp) : ARes :=
 s' (r0 fr H) ⟨fun fr H =>
 s' (r1 fr H) ⟨fun fr H =>
 s' (r2 fr H) ⟨fun fr H =>
 some (.ret, fr, H)⟩⟩⟩
@[simp] def res (fr : AFr) (H : Hp) : Option (List AV) := res2 (z_am (some (some 13)) (fr 4) H) (some [])
end z_c0
def z_c0 (a0 a1 : AV) : Option AV := z_ap (some [[none, none, none, none, none, none, none, none, none, none, none, none, none]]) (afinR z_c0.res (z_c0.body (args0 [a0, a1]) Hp.empty))
def z_c0.spec : List AV → Option AV
 | [a0, a1] => z_c0 a0 a1
 | _ => none
namespace z_ca
def C (s0 : SpecP) : Tab := (Tab.none.add 187 (.pure false s0))
@[simp] def r0 (fr : AFr) (H : Hp) : ARes :=
 areg (o' (abox T.ty_api_State (fr 0) H) ⟨fun v3 H =>
 o' (z_bo T.ty_api_State (some (.agg [(W32 0#32), (W32 0#32), (W32 0#32), (W32 0#32), (W32 0#32), (W32 0#32), (W32 0#32), (W32 0#32), (W32 0#32), (.bool false), (.bool false), (.bool false), (.bool false)])) H) ⟨fun v6 H =>
 e' [(1, fr 1), (2, fr 2), (3, v3), (6, v6)] H⟩⟩)
@[simp] def r1 (s0 : SpecP) (fr : AFr) (H : Hp) : ARes :=
 areg (q' (Ld' 13 (fr 3) H) H ⟨fun v7 H =>
 o' (callP false s0 [[none, none, none, none, none, none, none, none, none, none, none, none, none], [none]] [v7, (fr 1)] H) ⟨fun v9 H =>
 w' (z_ac (some 13) (fr 3) v9 H) ⟨fun _ H =>
 e' [(1, fr 1), (2, fr 2), (3, fr 3), (6, fr 6)] H⟩⟩⟩)
@[simp] def r2 (fr : AFr) (H : Hp) : ARes :=
 areg (q' (bn' .geq (fr 2) (.int .i64 0)) H ⟨fun v11 H =>
 e' [(1, fr 1), (2, fr 2), (3, fr 3), (6, fr 6), (11, v11)] H⟩)
@[simp] def r3 (fr : AFr) (H : Hp) : ARes :=
 areg (q' (fa' 0 (fr 3)) H ⟨fun v14 H =>
 q' (z_aa (.arr 8 1) v14 (fr 2)) H ⟨fun v15 H =>
 w' (z_ac (some 1) v15 (fr 1) H) ⟨fun _ H =>
 e' [(3, fr 3), (6, fr 6)] H⟩⟩⟩)
@[simp] def r4 (fr : AFr) (H : Hp) : ARes :=
 areg (q' (Ld' 13 (fr 3) H) H ⟨fun v16 H =>
 w' (z_ac (some 13) (fr 6) v16 H) ⟨fun _ H =>
 e' [(6, fr 6)] H⟩⟩)
@[simp] def body (s0 : SpecP) (fr : AFr) (H : Hp) : ARes :=
 s' (r0 fr H) ⟨fun fr H =>
 s' (r1 s0 fr H) ⟨fun fr H =>
 s' (s' (r2 fr H) ⟨fun fr H =>
 c' (fr 11)
 ⟨r3 fr H⟩
 ⟨some (.normal, fr, H)⟩⟩) ⟨fun fr H =>
 s' (r4 fr H) ⟨fun fr H =>
 some (.ret, fr, H)⟩⟩⟩⟩
@[simp] def res (fr : AFr) (H : Hp) : Option (List AV) := res2 (z_am (some (some 13)) (fr 6) H) (some [])
end z_ca
def z_ca (a0 a1 a2 : AV) : Option AV := z_ap (some [[none, none, none, none, none, none, none, none, none, none, none, none, none]]) (afinR z_ca.res (z_ca.body z_c0.spec (args0 [a0, a1, a2]) Hp.empty))
def z_ca.spec : List AV → Option AV
 | [a0, a1, a2] => z_ca a0 a1 a2
 | _ => none
namespace z_dh
def C : Tab := Tab.none
@[simp] def r0 (fr : AFr) (H : Hp) : ARes :=
 areg (e' [(0, fr 0)] H)
@[simp] def r1 (fr : AFr) (H : Hp) : ARes :=
 areg (q' (bn' .sub (W32 4294967295#32) (fr 0)) H ⟨fun v4 H =>
 e' [(2, v4)] H⟩)
@[simp] def body (fr : AFr) (H : Hp) : ARes :=
 s' (r0 fr H) ⟨fun fr H =>
 s' (r1 fr H) ⟨fun fr H =>
 some (.ret, fr, H)⟩⟩
@[simp] def res (fr : AFr) (H : Hp) : Option (List AV) := res2 (some (fr 2)) (some [])
end z_dh
def z_dh (a0 : AV) : Option AV := z_ap (some [[none]]) (afinR z_dh.res (z_dh.body (args0 [a0]) Hp.empty))
def z_dh.spec : List AV → Option AV
 | [a0] => z_dh a0
 | _ => none
namespace z_cz
def C (s0 s1 : SpecP) : Tab := ((Tab.none.add 46 (.pure false s0)).add 161 (.pure false s1))
@[simp] def r0 (fr : AFr) (H : Hp) : ARes :=
 areg (o' (abox T.ty_api_State (fr 0) H) ⟨fun v5 H =>
 o' (z_bo T.ty_api_State (some (.agg [(W32 0#32), (W32 0#32), (W32 0#32), (W32 0#32), (W32 0#32), (W32 0#32), (W32 0#32), (W32 0#32), (W32 0#32), (.bool false), (.bool false), (.bool false), (.bool false)])) H) ⟨fun v10 H =>
 e' [(1, fr 1), (2, fr 2), (3, fr 3), (4, fr 4), (5, v5), (10, v10)] H⟩⟩)
@[simp] def r1 (s0 : SpecP) (fr : AFr) (H : Hp) : ARes :=
 areg (o' (callP false s0 [[none], [none], [none]] [(fr 1), (fr 2), (fr 3)] H) ⟨fun v18 H =>
 q' (aextract v18 0) H ⟨fun v19 H =>
 q' (aextract v18 1) H ⟨fun v20 H =>
 q' (aextract v18 2) H ⟨fun v21 H =>
 e' [(4, fr 4), (5, fr 5), (10, fr 10), (11, v19), (12, v20), (13, v21)] H⟩⟩⟩⟩)
@[simp] def r2 (fr : AFr) (H : Hp) : ARes :=
 areg (q' (fa' 11 (fr 5)) H ⟨fun v24 H =>
 w' (z_ac (some 1) v24 (fr 12) H) ⟨fun _ H =>
 q' (fa' 12 (fr 5)) H ⟨fun v25 H =>
 w' (z_ac (some 1) v25 (fr 13) H) ⟨fun _ H =>
 e' [(4, fr 4), (5, fr 5), (10, fr 10), (11, fr 11)] H⟩⟩⟩⟩)
@[simp] def r3 (s1 : SpecP) (fr : AFr) (H : Hp) : ARes :=
 areg (q' (Ld' 13 (fr 5) H) H ⟨fun v26 H =>
 o' (callP false s1 [[none, none, none, none, none, none, none, none, none, none, none, none, none], [none], [none]] [v26, (fr 11), (fr 4)] H) ⟨fun v29 H =>
 w' (z_ac (some 13) (fr 10) v29 H) ⟨fun _ H =>
 e' [(10, fr 10)] H⟩⟩⟩)
@[simp] def body (s0 s1 : SpecP) (fr : AFr) (H : Hp) : ARes :=
 s' (r0 fr H) ⟨fun fr H =>
 s' (r1 s0 fr H) ⟨fun fr H =>
 s' (r2 fr H) ⟨fun fr H =>
 s' (r3 s1 fr H) ⟨fun fr H =>
 some (.ret, fr, H)⟩⟩⟩⟩
@[simp] def res (fr : AFr) (H : Hp) : Option (List AV) := res2 (z_am (some (some 13)) (fr 10) H) (some [])
end z_cz
def z_cz (a0 a1 a2 a3 a4 : AV) : Option AV := z_ap (some [[none, none, none, none, none, none, none, none, none, none, none, none, none]]) (afinR z_cz.res (z_cz.body z_c5.spec z_ca.spec (args0 [a0, a1, a2, a3, a4]) Hp.empty))
def z_cz.spec : List AV → Option AV
 | [a0, a1, a2, a3, a4] => z_cz a0 a1 a2 a3 a4
 | _ => none
namespace z_ch
def C (s0 s1 : SpecP) : Tab := ((Tab.none.add 87 (.pure false s0)).add 161 (.pure false s1))
@[simp] def r0 (fr : AFr) (H : Hp) : ARes :=
 areg (o' (abox T.ty_api_State (fr 0) H) ⟨fun v5 H =>
 o' (z_bo T.ty_api_State (some (.agg [(W32 0#32), (W32 0#32), (W32 0#32), (W32 0#32), (W32 0#32), (W32 0#32), (W32 0#32), (W32 0#32), (W32 0#32), (.bool false), (.bool false), (.bool false), (.bool false)])) H) ⟨fun v10 H =>
 e' [(1, fr 1), (2, fr 2), (3, fr 3), (4, fr 4), (5, v5), (10, v10)] H⟩⟩)
@[simp] def r1 (s0 : SpecP) (fr : AFr) (H : Hp) : ARes :=
 areg (q' (fa' 11 (fr 5)) H ⟨fun v17 H =>
 q' (ld' v17 H) H ⟨fun v18 H =>
 o' (callP false s0 [[none], [none], [none], [none]] [(fr 1), (fr 2), (fr 3), v18] H) ⟨fun v19 H =>
 q' (aextract v19 0) H ⟨fun v20 H =>
 q' (aextract v19 1) H ⟨fun v21 H =>
 e' [(4, fr 4), (5, fr 5), (10, fr 10), (11, v20), (12, v21)] H⟩⟩⟩⟩⟩)
@[simp] def r2 (fr : AFr) (H : Hp) : ARes :=
 areg (q' (fa' 11 (fr 5)) H ⟨fun v23 H =>
 w' (z_ac (some 1) v23 (fr 12) H) ⟨fun _ H =>
 e' [(4, fr 4), (5, fr 5), (10, fr 10), (11, fr 11)] H⟩⟩)
@[simp] def r3 (s1 : SpecP) (fr : AFr) (H : Hp) : ARes :=
 areg (q' (Ld' 13 (fr 5) H) H ⟨fun v24 H =>
 o' (callP false s1 [[none, none, none, none, none, none, none, none, none, none, none, none, none], [none], [none]] [v24, (fr 11), (fr 4)] H) ⟨fun v27 H =>
 w' (z_ac (some 13) (fr 10) v27 H) ⟨fun _ H =>
 e' [(10, fr 10)] H⟩⟩⟩)
@[simp] def body (s0 s1 : SpecP) (fr : AFr) (H : Hp) : ARes :=
 s' (r0 fr H) ⟨fun fr H =>
 s' (r1 s0 fr H) ⟨fun fr H =>
 s' (r2 fr H) ⟨fun fr H =>
 s' (r3 s1 fr H) ⟨fun fr H =>
 some (.ret, fr, H)⟩⟩⟩⟩
@[simp] def res (fr : AFr) (H : Hp) : Option (List AV) := res2 (z_am (some (some 13)) (fr 10) H) (some [])
end z_ch
def z_ch (a0 a1 a2 a3 a4 : AV) : Option AV := z_ap (some [[none, none, none, none, none, none, none, none, none, none, none, none, none]]) (afinR z_ch.res (z_ch.body z_aq.spec z_ca.spec (args0 [a0, a1, a2, a3, a4]) Hp.empty))
def z_ch.spec : List AV → Option AV
 | [a0, a1, a2, a3, a4] => z_ch a0 a1 a2 a3 a4
 | _ => none
namespace z_ar
def C (s0 s1 s2 s3 : SpecP) : Tab := ((((Tab.none.add 161 (.pure false s0)).add 164 (.pure false s1)).add 162 (.pure false s2)).add 163 (.pure false s3))
@[simp] def r0 (fr : AFr) (H : Hp) : ARes :=
 areg (o' (abox T.ty_api_State (fr 0) H) ⟨fun v5 H =>
 o' (z_bo T.ty_api_State (some (.agg [(W32 0#32), (W32 0#32), (W32 0#32), (W32 0#32), (W32 0#32), (W32 0#32), (W32 0#32), (W32 0#32), (W32 0#32), (.bool false), (.bool false), (.bool false), (.bool false)])) H) ⟨fun v10 H =>
 e' [(1, fr 1), (2, fr 2), (3, fr 3), (4, fr 4), (5, v5), (10, v10)] H⟩⟩)
@[simp] def r1 (fr : AFr) (H : Hp) : ARes :=
 areg (e' [(1, fr 1), (2, fr 2), (3, fr 3), (4, fr 4), (5, fr 5), (10, fr 10), (11, (fr 1))] H)
@[simp] def r2 (fr : AFr) (H : Hp) : ARes :=
 areg (q' (bn' .eql (fr 11) (.int .i64 0)) H ⟨fun v13 H =>
 e' [(1, fr 1), (2, fr 2), (3, fr 3), (4, fr 4), (5, fr 5), (10, fr 10), (11, fr 11), (12, v13)] H⟩)
@[simp] def r3 (s0 : SpecP) (fr : AFr) (H : Hp) : ARes :=
 areg (q' (Ld' 13 (fr 5) H) H ⟨fun v14 H =>
 q' (bn' .and (fr 3) (fr 4)) H ⟨fun v17 H =>
 o' (callP false s0 [[none, none, none, none, none, none, none, none, none, none, none, none, none], [none], [none]] [v14, v17, (fr 2)] H) ⟨fun v19 H =>
 w' (z_ac (some 13) (fr 10) v19 H) ⟨fun _ H =>
 e' [(10, fr 10)] H⟩⟩⟩⟩)
@[simp] def r4 (fr : AFr) (H : Hp) : ARes :=
 areg (q' (bn' .eql (fr 11) (.int .i64 1)) H ⟨fun v21 H =>
 e' [(1, fr 1), (2, fr 2), (3, fr 3), (4, fr 4), (5, fr 5), (10, fr 10), (11, fr 11), (20, v21)] H⟩)
@[simp] def r5 (s0 : SpecP) (fr : AFr) (H : Hp) : ARes :=
 areg (q' (Ld' 13 (fr 5) H) H ⟨fun v22 H =>
 q' (bn' .xor (fr 3) (fr 4)) H ⟨fun v25 H =>
 o' (callP false s0 [[none, none, none, none, none, none, none, none, none, none, none, none, none], [none], [none]] [v22, v25, (fr 2)] H) ⟨fun v27 H =>
 w' (z_ac (some 13) (fr 10) v27 H) ⟨fun _ H =>
 e' [(10, fr 10)] H⟩⟩⟩⟩)
@[simp] def r6 (fr : AFr) (H : Hp) : ARes :=
 areg (q' (bn' .eql (fr 11) (.int .i64 2)) H ⟨fun v29 H =>
 e' [(1, fr 1), (2, fr 2), (3, fr 3), (4, fr 4), (5, fr 5), (10, fr 10), (11, fr 11), (28, v29)] H⟩)
@[simp] def r7 (fr : AFr) (H : Hp) : ARes :=
 areg (q' (bn' .eql (fr 11) (.int .i64 3)) H ⟨fun v30 H =>
 e' [(1, fr 1), (2, fr 2), (3, fr 3), (4, fr 4), (5, fr 5), (10, fr 10), (11, fr 11), (28, v30)] H⟩)
@[simp] def r8 (fr : AFr) (H : Hp) : ARes :=
 areg (q' (bn' .eql (fr 11) (.int .i64 4)) H ⟨fun v31 H =>
 e' [(1, fr 1), (2, fr 2), (3, fr 3), (4, fr 4), (5, fr 5), (10, fr 10), (11, fr 11), (28, v31)] H⟩)
@[simp] def r9 (s1 : SpecP) (fr : AFr) (H : Hp) : ARes :=
 areg (q' (Ld' 13 (fr 5) H) H ⟨fun v32 H =>
 q' (bn' .sub (fr 1) (.int .i64 2)) H ⟨fun v34 H =>
 q' (bn' .rem (fr 4) (W32 256#32)) H ⟨fun v37 H =>
 o' (callP false s1 [[none, none, none, none, none, none, none, none, none, none, none, none, none], [none], [none], [none], [none]] [v32, v34, (fr 3), v37, (fr 2)] H) ⟨fun v39 H =>
 w' (z_ac (some 13) (fr 10) v39 H) ⟨fun _ H =>
 e' [(10, fr 10)] H⟩⟩⟩⟩⟩)
@[simp] def r10 (fr : AFr) (H : Hp) : ARes :=
 areg (q' (bn' .eql (fr 11) (.int .i64 5)) H ⟨fun v41 H =>
 e' [(2, fr 2), (3, fr 3), (4, fr 4), (5, fr 5), (10, fr 10), (11, fr 11), (40, v41)] H⟩)
@[simp] def r11 (s2 : SpecP) (fr : AFr) (H : Hp) : ARes :=
 areg (q' (Ld' 13 (fr 5) H) H ⟨fun v42 H =>
 q' (fa' 11 (fr 5)) H ⟨fun v45 H =>
 q' (ld' v45 H) H ⟨fun v46 H =>
 o' (callP false s2 [[none, none, none, none, none, none, none, none, none, none, none, none, none], [none], [none], [none], [none]] [v42, (fr 3), (fr 4), v46, (fr 2)] H) ⟨fun v48 H =>
 w' (z_ac (some 13) (fr 10) v48 H) ⟨fun _ H =>
 e' [(10, fr 10)] H⟩⟩⟩⟩⟩)
@[simp] def r12 (fr : AFr) (H : Hp) : ARes :=
 areg (q' (bn' .eql (fr 11) (.int .i64 6)) H ⟨fun v50 H =>
 e' [(2, fr 2), (3, fr 3), (4, fr 4), (5, fr 5), (10, fr 10), (11, fr 11), (49, v50)] H⟩)
@[simp] def r13 (s2 s3 : SpecP) (fr : AFr) (H : Hp) : ARes :=
 areg (q' (Ld' 13 (fr 5) H) H ⟨fun v51 H1 =>
 q' (some (fr 3)) H1 ⟨fun v52 H2 =>
 q' (some (fr 4)) H2 ⟨fun v53 H3 =>
 o' (callP false s3 [[none]] [v53] H3) ⟨fun v54 H4 =>
 q' (fa' 11 (fr 5)) H4 ⟨fun v55 H5 =>
 q' (ld' v55 H5) H5 ⟨fun v56 H6 =>
 q' (some (fr 2)) H6 ⟨fun v57 H7 =>
 o' (callP false s2 [[none, none, none, none, none, none, none, none, none, none, none, none, none], [none], [none], [none], [none]] [v51, v52, v54, v56, v57] H7) ⟨fun v58 H8 =>
 w' (z_ac (some 13) (fr 10) v58 H8) ⟨fun _ H9 =>
 z_bw [z_am (some (some 13)) (fr 5) H3 = z_am (some (some 13)) (fr 5) H4, z_am (some none) v55 H3 = z_am (some none) v55 H4] (e' [(10, fr 10)] H9)⟩⟩⟩⟩⟩⟩⟩⟩⟩)
@[simp] def r14 (fr : AFr) (H : Hp) : ARes :=
 areg (q' (bn' .eql (fr 11) (.int .i64 7)) H ⟨fun v60 H =>
 e' [(2, fr 2), (3, fr 3), (4, fr 4), (5, fr 5), (10, fr 10), (11, fr 11), (59, v60)] H⟩)
@[simp] def r15 (s1 : SpecP) (fr : AFr) (H : Hp) : ARes :=
 areg (q' (Ld' 13 (fr 5) H) H ⟨fun v61 H =>
 q' (bn' .rem (fr 4) (W32 256#32)) H ⟨fun v64 H =>
 o' (callP false s1 [[none, none, none, none, none, none, none, none, none, none, none, none, none], [none], [none], [none], [none]] [v61, (.int .i64 3), (fr 3), v64, (fr 2)] H) ⟨fun v66 H =>
 w' (z_ac (some 13) (fr 10) v66 H) ⟨fun _ H =>
 e' [(10, fr 10)] H⟩⟩⟩⟩)
@[simp] def r16 (fr : AFr) (H : Hp) : ARes :=
 areg (q' (bn' .eql (fr 11) (.int .i64 8)) H ⟨fun v68 H =>
 e' [(2, fr 2), (3, fr 3), (4, fr 4), (5, fr 5), (10, fr 10), (11, fr 11), (67, v68)] H⟩)
@[simp] def r17 (s0 : SpecP) (fr : AFr) (H : Hp) : ARes :=
 areg (q' (Ld' 13 (fr 5) H) H ⟨fun v69 H =>
 q' (bn' .and (fr 3) (fr 4)) H ⟨fun v72 H =>
 o' (callP false s0 [[none, none, none, none, none, none, none, none, none, none, none, none, none], [none], [none]] [v69, v72, (.int .i64 (-1))] H) ⟨fun v73 H =>
 w' (z_ac (some 13) (fr 10) v73 H) ⟨fun _ H =>
 e' [(10, fr 10)] H⟩⟩⟩⟩)
@[simp] def r18 (fr : AFr) (H : Hp) : ARes :=
 areg (q' (bn' .eql (fr 11) (.int .i64 9)) H ⟨fun v75 H =>
 e' [(2, fr 2), (3, fr 3), (4, fr 4), (5, fr 5), (10, fr 10), (11, fr 11), (74, v75)] H⟩)
@[simp] def r19 (s2 s3 : SpecP) (fr : AFr) (H : Hp) : ARes :=
 areg (q' (Ld' 13 (fr 5) H) H ⟨fun v76 H1 =>
 q' (some (fr 4)) H1 ⟨fun v77 H2 =>
 o' (callP false s3 [[none]] [v77] H2) ⟨fun v78 H3 =>
 q' (some (fr 2)) H3 ⟨fun v79 H4 =>
 o' (callP false s2 [[none, none, none, none, none, none, none, none, none, none, none, none, none], [none], [none], [none], [none]] [v76, (W32 0#32), v78, (.bool true), v79] H4) ⟨fun v80 H5 =>
 w' (z_ac (some 13) (fr 10) v80 H5) ⟨fun _ H6 =>
 z_bw [z_am (some (some 13)) (fr 5) H2 = z_am (some (some 13)) (fr 5) H3] (e' [(10, fr 10)] H6)⟩⟩⟩⟩⟩⟩)
@[simp] def r20 (fr : AFr) (H : Hp) : ARes :=
 areg (q' (bn' .eql (fr 11) (.int .i64 10)) H ⟨fun v82 H =>
 e' [(2, fr 2), (3, fr 3), (4, fr 4), (5, fr 5), (10, fr 10), (11, fr 11), (81, v82)] H⟩)
@[simp] def r21 (s2 s3 : SpecP) (fr : AFr) (H : Hp) : ARes :=
 areg (q' (Ld' 13 (fr 5) H) H ⟨fun v83 H1 =>
 q' (some (fr 3)) H1 ⟨fun v84 H2 =>
 q' (some (fr 4)) H2 ⟨fun v85 H3 =>
 o' (callP false s3 [[none]] [v85] H3) ⟨fun v86 H4 =>
 o' (callP false s2 [[none, none, none, none, none, none, none, none, none, none, none, none, none], [none], [none], [none], [none]] [v83, v84, v86, (.bool true), (.int .i64 (-1))] H4) ⟨fun v87 H5 =>
 w' (z_ac (some 13) (fr 10) v87 H5) ⟨fun _ H6 =>
 z_bw [z_am (some (some 13)) (fr 5) H3 = z_am (some (some 13)) (fr 5) H4] (e' [(10, fr 10)] H6)⟩⟩⟩⟩⟩⟩)
@[simp] def r22 (fr : AFr) (H : Hp) : ARes :=
 areg (q' (bn' .eql (fr 11) (.int .i64 11)) H ⟨fun v89 H =>
 e' [(2, fr 2), (3, fr 3), (4, fr 4), (5, fr 5), (10, fr 10), (11, fr 11), (88, v89)] H⟩)
@[simp] def r23 (s2 : SpecP) (fr : AFr) (H : Hp) : ARes :=
 areg (q' (Ld' 13 (fr 5) H) H ⟨fun v90 H =>
 o' (callP false s2 [[none, none, none, none, none, none, none, none, none, none, none, none, none], [none], [none], [none], [none]] [v90, (fr 3), (fr 4), (.bool false), (.int .i64 (-1))] H) ⟨fun v93 H =>
 w' (z_ac (some 13) (fr 10) v93 H) ⟨fun _ H =>
 e' [(10, fr 10)] H⟩⟩⟩)
@[simp] def r24 (fr : AFr) (H : Hp) : ARes :=
 areg (q' (bn' .eql (fr 11) (.int .i64 12)) H ⟨fun v95 H =>
 e' [(2, fr 2), (3, fr 3), (4, fr 4), (5, fr 5), (10, fr 10), (11, fr 11), (94, v95)] H⟩)
@[simp] def r25 (s0 : SpecP) (fr : AFr) (H : Hp) : ARes :=
 areg (q' (Ld' 13 (fr 5) H) H ⟨fun v96 H =>
 q' (bn' .or (fr 3) (fr 4)) H ⟨fun v99 H =>
 o' (callP false s0 [[none, none, none, none, none, none, none, none, none, none, none, none, none], [none], [none]] [v96, v99, (fr 2)] H) ⟨fun v101 H =>
 w' (z_ac (some 13) (fr 10) v101 H) ⟨fun _ H =>
 e' [(10, fr 10)] H⟩⟩⟩⟩)
@[simp] def r26 (fr : AFr) (H : Hp) : ARes :=
 areg (q' (bn' .eql (fr 11) (.int .i64 13)) H ⟨fun v103 H =>
 e' [(2, fr 2), (3, fr 3), (4, fr 4), (5, fr 5), (10, fr 10), (11, fr 11), (102, v103)] H⟩)
@[simp] def r27 (s0 : SpecP) (fr : AFr) (H : Hp) : ARes :=
 areg (q' (Ld' 13 (fr 5) H) H ⟨fun v104 H =>
 q' (bn' .mul (fr 3) (fr 4)) H ⟨fun v107 H =>
 o' (callP false s0 [[none, none, none, none, none, none, none, none, none, none, none, none, none], [none], [none]] [v104, v107, (fr 2)] H) ⟨fun v109 H =>
 w' (z_ac (some 13) (fr 10) v109 H) ⟨fun _ H =>
 e' [(10, fr 10)] H⟩⟩⟩⟩)
@[simp] def r28 (fr : AFr) (H : Hp) : ARes :=
 areg (q' (bn' .eql (fr 11) (.int .i64 14)) H ⟨fun v111 H =>
 e' [(2, fr 2), (3, fr 3), (4, fr 4), (5, fr 5), (10, fr 10), (110, v111)] H⟩)
@[simp] def r29 (s0 s3 : SpecP) (fr : AFr) (H : Hp) : ARes :=
 areg (q' (Ld' 13 (fr 5) H) H ⟨fun v112 H1 =>
 q' (some (fr 3)) H1 ⟨fun v113 H2 =>
 q' (some (fr 4)) H2 ⟨fun v114 H3 =>
 o' (callP false s3 [[none]] [v114] H3) ⟨fun v115 H4 =>
 q' (bn' .and v113 v115) H4 ⟨fun v116 H5 =>
 q' (some (fr 2)) H5 ⟨fun v117 H6 =>
 o' (callP false s0 [[none, none, none, none, none, none, none, none, none, none, none, none, none], [none], [none]] [v112, v116, v117] H6) ⟨fun v118 H7 =>
 w' (z_ac (some 13) (fr 10) v118 H7) ⟨fun _ H8 =>
 z_bw [z_am (some (some 13)) (fr 5) H3 = z_am (some (some 13)) (fr 5) H4] (e' [(10, fr 10)] H8)⟩⟩⟩⟩⟩⟩⟩⟩)
@[simp] def r30 (s0 s3 : SpecP) (fr : AFr) (H : Hp) : ARes :=
 areg (q' (Ld' 13 (fr 5) H) H ⟨fun v119 H1 =>
 q' (some (fr 4)) H1 ⟨fun v120 H2 =>
 o' (callP false s3 [[none]] [v120] H2) ⟨fun v121 H3 =>
 q' (some (fr 2)) H3 ⟨fun v122 H4 =>
 o' (callP false s0 [[none, none, none, none, none, none, none, none, none, none, none, none, none], [none], [none]] [v119, v121, v122] H4) ⟨fun v123 H5 =>
 w' (z_ac (some 13) (fr 10) v123 H5) ⟨fun _ H6 =>
 z_bw [z_am (some (some 13)) (fr 5) H2 = z_am (some (some 13)) (fr 5) H3] (e' [(10, fr 10)] H6)⟩⟩⟩⟩⟩⟩)
@[simp] def body (s0 s1 s2 s3 : SpecP) (fr : AFr) (H : Hp) : ARes :=
 s' (r0 fr H) ⟨fun fr H =>
 s' (s' (r1 fr H) ⟨fun fr H =>
 aexit 0 (s' (r2 fr H) ⟨fun fr H =>
 c' (fr 12)
 ⟨s' (r3 s0 fr H) ⟨fun fr H =>
 some (.ret, fr, H)⟩⟩
 ⟨s' (r4 fr H) ⟨fun fr H =>
 c' (fr 20)
 ⟨s' (r5 s0 fr H) ⟨fun fr H =>
 some (.ret, fr, H)⟩⟩
 ⟨s' (s' (r6 fr H) ⟨fun fr H =>
 c' (fr 28)
 ⟨some (.normal, fr, H)⟩
 ⟨s' (r7 fr H) ⟨fun fr H =>
 c' (fr 28)
 ⟨some (.normal, fr, H)⟩
 ⟨r8 fr H⟩⟩⟩⟩) ⟨fun fr H =>
 c' (fr 28)
 ⟨s' (r9 s1 fr H) ⟨fun fr H =>
 some (.ret, fr, H)⟩⟩
 ⟨s' (r10 fr H) ⟨fun fr H =>
 c' (fr 40)
 ⟨s' (r11 s2 fr H) ⟨fun fr H =>
 some (.ret, fr, H)⟩⟩
 ⟨s' (r12 fr H) ⟨fun fr H =>
 c' (fr 49)
 ⟨s' (r13 s2 s3 fr H) ⟨fun fr H =>
 some (.ret, fr, H)⟩⟩
 ⟨s' (r14 fr H) ⟨fun fr H =>
 c' (fr 59)
 ⟨s' (r15 s1 fr H) ⟨fun fr H =>
 some (.ret, fr, H)⟩⟩
 ⟨s' (r16 fr H) ⟨fun fr H =>
 c' (fr 67)
 ⟨s' (r17 s0 fr H) ⟨fun fr H =>
 some (.ret, fr, H)⟩⟩
 ⟨s' (r18 fr H) ⟨fun fr H =>
 c' (fr 74)
 ⟨s' (r19 s2 s3 fr H) ⟨fun fr H =>
 some (.ret, fr, H)⟩⟩
 ⟨s' (r20 fr H) ⟨fun fr H =>
 c' (fr 81)
 ⟨s' (r21 s2 s3 fr H) ⟨fun fr H =>
 some (.ret, fr, H)⟩⟩
 ⟨s' (r22 fr H) ⟨fun fr H =>
 c' (fr 88)
 ⟨s' (r23 s2 fr H) ⟨fun fr H =>
 some (.ret, fr, H)⟩⟩
 ⟨s' (r24 fr H) ⟨fun fr H =>
 c' (fr 94)
 ⟨s' (r25 s0 fr H) ⟨fun fr H =>
 some (.ret, fr, H)⟩⟩
 ⟨s' (r26 fr H) ⟨fun fr H =>
 c' (fr 102)
 ⟨s' (r27 s0 fr H) ⟨fun fr H =>
 some (.ret, fr, H)⟩⟩
 ⟨s' (r28 fr H) ⟨fun fr H =>
 c' (fr 110)
 ⟨s' (r29 s0 s3 fr H) ⟨fun fr H =>
 some (.ret, fr, H)⟩⟩
 ⟨some (.normal, fr, H)⟩⟩⟩⟩⟩⟩⟩⟩⟩⟩⟩⟩⟩⟩⟩⟩⟩⟩⟩⟩⟩⟩⟩⟩⟩⟩)⟩) ⟨fun fr H =>
 s' (r30 s0 s3 fr H) ⟨fun fr H =>
 some (.ret, fr, H)⟩⟩⟩
@[simp] def res (fr : AFr) (H : Hp) : Option (List AV) := res2 (z_am (some (some 13)) (fr 10) H) (some [])
end z_ar
def z_ar (a0 a1 a2 a3 a4 : AV) : Option AV := z_ap (some [[none, none, none, none, none, none, none, none, none, none, none, none, none]]) (afinR z_ar.res (z_ar.body z_ca.spec z_ch.spec z_cz.spec z_dh.spec (args0 [a0, a1, a2, a3, a4]) Hp.empty))
def z_ar.spec : List AV → Option AV
 | [a0, a1, a2, a3, a4] => z_ar a0 a1 a2 a3 a4
 | _ => none
namespace z_bm
def C : Tab := Tab.none
@[simp] def r0 (fr : AFr) (H : Hp) : ARes :=
 areg (o' (abox T.ty_api_State (fr 1) H) ⟨fun v3 H =>
 e' [(0, fr 0), (3, v3)] H⟩)
@[simp] def r1 (fr : AFr) (H : Hp) : ARes :=
 areg (q' (bn' .lss (fr 0) (.int .i64 0)) H ⟨fun v6 H =>
 G' v6 false ⟨some (fr 0)⟩ H ⟨fun v8 H =>
 G' v6 false ⟨bn' .gtr v8 (.int .i64 13)⟩ H ⟨fun v9 H =>
 q' (apick v6 (.bool true) v9) H ⟨fun v10 H =>
 e' [(0, fr 0), (3, fr 3), (10, v10)] H⟩⟩⟩⟩)
@[simp] def r2 (fr : AFr) (H : Hp) : ARes :=
 areg (e' [(4, (.bool false))] H)
@[simp] def r3 (fr : AFr) (H : Hp) : ARes :=
 areg (q' (fa' 10 (fr 3)) H ⟨fun v11 H =>
 q' (ld' v11 H) H ⟨fun v12 H =>
 q' (fa' 10 (fr 3)) H ⟨fun v13 H =>
 q' (ld' v13 H) H ⟨fun v14 H =>
 q' (aun .not v14) H ⟨fun v15 H =>
 q' (fa' 11 (fr 3)) H ⟨fun v16 H =>
 q' (ld' v16 H) H ⟨fun v17 H =>
 q' (fa' 11 (fr 3)) H ⟨fun v18 H =>
 q' (ld' v18 H) H ⟨fun v19 H =>
 q' (aun .not v19) H ⟨fun v20 H =>
 q' (fa' 9 (fr 3)) H ⟨fun v21 H =>
 q' (ld' v21 H) H ⟨fun v22 H =>
 q' (fa' 9 (fr 3)) H ⟨fun v23 H =>
 q' (ld' v23 H) H ⟨fun v24 H =>
 q' (aun .not v24) H ⟨fun v25 H =>
 q' (fa' 12 (fr 3)) H ⟨fun v26 H =>
 q' (ld' v26 H) H ⟨fun v27 H =>
 q' (fa' 12 (fr 3)) H ⟨fun v28 H =>
 q' (ld' v28 H) H ⟨fun v29 H =>
 q' (aun .not v29) H ⟨fun v30 H =>
 q' (fa' 11 (fr 3)) H ⟨fun v31 H =>
 q' (ld' v31 H) H ⟨fun v32 H =>
 G' v32 true ⟨fa' 10 (fr 3)⟩ H ⟨fun v34 H =>
 G' v32 true ⟨ld' v34 H⟩ H ⟨fun v35 H =>
 G' v32 true ⟨aun .not v35⟩ H ⟨fun v36 H =>
 q' (apick v32 v36 (.bool false)) H ⟨fun v37 H =>
 q' (fa' 11 (fr 3)) H ⟨fun v38 H =>
 q' (ld' v38 H) H ⟨fun v39 H =>
 q' (aun .not v39) H ⟨fun v40 H =>
 G' v40 false ⟨fa' 10 (fr 3)⟩ H ⟨fun v42 H =>
 G' v40 false ⟨ld' v42 H⟩ H ⟨fun v43 H =>
 q' (apick v40 (.bool true) v43) H ⟨fun v44 H =>
 q' (fa' 9 (fr 3)) H ⟨fun v45 H =>
 q' (ld' v45 H) H ⟨fun v46 H =>
 q' (fa' 12 (fr 3)) H ⟨fun v47 H =>
 q' (ld' v47 H) H ⟨fun v48 H =>
 q' (abinR .b .eql v46 v48) H ⟨fun v49 H =>
 q' (fa' 9 (fr 3)) H ⟨fun v50 H =>
 q' (ld' v50 H) H ⟨fun v51 H =>
 q' (fa' 12 (fr 3)) H ⟨fun v52 H =>
 q' (ld' v52 H) H ⟨fun v53 H =>
 q' (abinR .b .neq v51 v53) H ⟨fun v54 H =>
 q' (fa' 10 (fr 3)) H ⟨fun v55 H =>
 q' (ld' v55 H) H ⟨fun v56 H =>
 q' (aun .not v56) H ⟨fun v57 H =>
 G' v57 true ⟨fa' 9 (fr 3)⟩ H ⟨fun v59 H =>
 G' v57 true ⟨ld' v59 H⟩ H ⟨fun v60 H =>
 G' v57 true ⟨fa' 12 (fr 3)⟩ H ⟨fun v61 H =>
 G' v57 true ⟨ld' v61 H⟩ H ⟨fun v62 H =>
 G' v57 true ⟨abinR .b .eql v60 v62⟩ H ⟨fun v63 H =>
 q' (apick v57 v63 (.bool false)) H ⟨fun v64 H =>
 q' (fa' 10 (fr 3)) H ⟨fun v65 H =>
 q' (ld' v65 H) H ⟨fun v66 H =>
 G' v66 false ⟨fa' 9 (fr 3)⟩ H ⟨fun v68 H =>
 G' v66 false ⟨ld' v68 H⟩ H ⟨fun v69 H =>
 G' v66 false ⟨fa' 12 (fr 3)⟩ H ⟨fun v70 H =>
 G' v66 false ⟨ld' v70 H⟩ H ⟨fun v71 H =>
 G' v66 false ⟨abinR .b .neq v69 v71⟩ H ⟨fun v72 H =>
 q' (apick v66 (.bool true) v72) H ⟨fun v73 H =>
 o' (z_ae (some ⟨T.ty_bool, 1, 1, [(.bool false)]⟩) 14 [(0, v12), (1, v15), (2, v17), (3, v20), (4, v22), (5, v25), (6, v27), (7, v30), (8, v37), (9, v44), (10, v49), (11, v54), (12, v64), (13, v73)] H) ⟨fun v74 H =>
 q' (z_aa (.sl 1) v74 (fr 0)) H ⟨fun v76 H =>
 q' (ld' v76 H) H ⟨fun v77 H =>
 e' [(4, v77)] H⟩⟩⟩⟩⟩⟩⟩⟩⟩⟩⟩⟩⟩⟩⟩⟩⟩⟩⟩⟩⟩⟩⟩⟩⟩⟩⟩⟩⟩⟩⟩⟩⟩⟩⟩⟩⟩⟩⟩⟩⟩⟩⟩⟩⟩⟩⟩⟩⟩⟩⟩⟩⟩⟩⟩⟩⟩⟩⟩⟩⟩⟩)
@[simp] def body (fr : AFr) (H : Hp) : ARes :=
 s' (r0 fr H) ⟨fun fr H =>
 s' (s' (r1 fr H) ⟨fun fr H =>
 c' (fr 10)
 ⟨s' (r2 fr H) ⟨fun fr H =>
 some (.ret, fr, H)⟩⟩
 ⟨some (.normal, fr, H)⟩⟩) ⟨fun fr H =>
 s' (r3 fr H) ⟨fun fr H =>
 some (.ret, fr, H)⟩⟩⟩
@[simp] def res (fr : AFr) (H : Hp) : Option (List AV) := res2 (some (fr 4)) (some [])
end z_bm
def z_bm (a0 a1 : AV) : Option AV := z_ap (some [[none]]) (afinR z_bm.res (z_bm.body (args0 [a0, a1]) Hp.empty))
def z_bm.spec : List AV → Option AV
 | [a0, a1] => z_bm a0 a1
 | _ => none
namespace z_av
def C (s0 : SpecM) (s1 s2 s3 s4 s5 s6 : SpecP) (s7 s8 : SpecM) (s9 : SpecP) : Tab := ((((((((((Tab.none.add 124 (.ref [false, false] s0)).add 83 (.pure false s1)).add 161 (.pure false s2)).add 163 (.pure false s3)).add 162 (.pure false s4)).add 164 (.pure false s5)).add 165 (.pure false s6)).add 166 (.ref [false, false] s7)).add 167 (.ref [false, false, false] s8)).add 168 (.pure false s9))
@[simp] def r0 (fr : AFr) (H : Hp) : ARes :=
 areg (o' (abox T.ty_api_State (fr 0) H) ⟨fun v2 H =>
 o' (z_bo T.ty_api_State (some (.agg [(W32 0#32), (W32 0#32), (W32 0#32), (W32 0#32), (W32 0#32), (W32 0#32), (W32 0#32), (W32 0#32), (W32 0#32), (.bool false), (.bool false), (.bool false), (.bool false)])) H) ⟨fun v4 H =>
 e' [(1, fr 1), (2, v2), (4, v4)] H⟩⟩)
@[simp] def r1 (s0 : SpecM) (fr : AFr) (H : Hp) : ARes :=
 areg (q' (fa' 8 (fr 2)) H ⟨fun v19 H =>
 q' (ld' v19 H) H ⟨fun v20 H =>
 o' (callM [false, false] s0 [[none], [none]] [(fr 1), v20] H) ⟨fun v21 H =>
 q' (aextract v21 0) H ⟨fun v22 H =>
 q' (aextract v21 1) H ⟨fun v23 H =>
 e' [(1, fr 1), (2, fr 2), (4, fr 4), (7, v22), (8, v23)] H⟩⟩⟩⟩⟩)
@[simp] def r2 (fr : AFr) (H : Hp) : ARes :=
 areg (q' (bn' .neq (fr 8) (.int .i64 0)) H ⟨fun v25 H =>
 e' [(1, fr 1), (2, fr 2), (4, fr 4), (7, fr 7), (8, fr 8), (25, v25)] H⟩)
@[simp] def r3 (fr : AFr) (H : Hp) : ARes :=
 areg (q' (Ld' 13 (fr 2) H) H ⟨fun v26 H =>
 w' (z_ac (some 13) (fr 4) v26 H) ⟨fun _ H =>
 e' [(4, fr 4), (5, (.bool false)), (6, (fr 8))] H⟩⟩)
@[simp] def r4 (s1 : SpecP) (fr : AFr) (H : Hp) : ARes :=
 areg (o' (callP false s1 [[none]] [(fr 7)] H) ⟨fun v30 H =>
 q' (aextract v30 0) H ⟨fun v31 H =>
 q' (aextract v30 1) H ⟨fun v32 H =>
 o' (z_bo T.ty_api_Ins (some (.agg [(.int .i64 0), (.int .i64 0), (.int .i64 0), (.int .i64 0), (.int .i64 0)])) H) ⟨fun v9 H =>
 w' (z_ac (some 5) v9 v31 H) ⟨fun _ H =>
 e' [(1, fr 1), (2, fr 2), (4, fr 4), (9, v9), (10, v32)] H⟩⟩⟩⟩⟩)
@[simp] def r5 (fr : AFr) (H : Hp) : ARes :=
 areg (q' (bn' .neq (fr 10) (.int .i64 0)) H ⟨fun v34 H =>
 e' [(1, fr 1), (2, fr 2), (4, fr 4), (9, fr 9), (10, fr 10), (34, v34)] H⟩)
@[simp] def r6 (fr : AFr) (H : Hp) : ARes :=
 areg (q' (Ld' 13 (fr 2) H) H ⟨fun v35 H =>
 w' (z_ac (some 13) (fr 4) v35 H) ⟨fun _ H =>
 e' [(4, fr 4), (5, (.bool false)), (6, (fr 10))] H⟩⟩)
@[simp] def r7 (fr : AFr) (H : Hp) : ARes :=
 areg (q' (fa' 4 (fr 9)) H ⟨fun v37 H1 =>
 q' (ld' v37 H1) H1 ⟨fun v38 H2 =>
 q' (z_du (some .u32) v38) H2 ⟨fun v39 H3 =>
 q' (Ld' 13 (fr 2) H3) H3 ⟨fun v40 H4 =>
 q' (fa' 8 (fr 2)) H4 ⟨fun v41 H5 =>
 q' (ld' v41 H5) H5 ⟨fun v42 H6 =>
 q' (bn' .add v42 (W32 2#32)) H6 ⟨fun v43 H7 =>
 o' (z_bo T.ty_api_State (some (.agg [(W32 0#32), (W32 0#32), (W32 0#32), (W32 0#32), (W32 0#32), (W32 0#32), (W32 0#32), (W32 0#32), (W32 0#32), (.bool false), (.bool false), (.bool false), (.bool false)])) H7) ⟨fun v12 H8 =>
 q' (some v39) H8 ⟨fun v11 H9 =>
 w' (z_ac (some 13) v12 v40 H9) ⟨fun _ H10 =>
 q' (some v43) H10 ⟨fun v13 H11 =>
 z_bw [z_am (some none) v41 H9 = z_am (some none) v41 H10] (e' [(1, fr 1), (2, fr 2), (4, fr 4), (9, fr 9), (11, v11), (12, v12), (13, v13)] H11)⟩⟩⟩⟩⟩⟩⟩⟩⟩⟩⟩)
@[simp] def r8 (fr : AFr) (H : Hp) : ARes :=
 areg (q' (fa' 1 (fr 9)) H ⟨fun v44 H1 =>
 q' (ld' v44 H1) H1 ⟨fun v45 H2 =>
 q' (bn' .rem v45 (.int .i64 8)) H2 ⟨fun v46 H3 =>
 q' (fa' 0 (fr 2)) H3 ⟨fun v47 H4 =>
 q' (z_aa (.arr 8 1) v47 v46) H4 ⟨fun v48 H5 =>
 q' (ld' v48 H5) H5 ⟨fun v49 H6 =>
 q' (fa' 2 (fr 9)) H6 ⟨fun v50 H7 =>
 q' (ld' v50 H7) H7 ⟨fun v51 H8 =>
 q' (fa' 0 (fr 2)) H8 ⟨fun v52 H9 =>
 q' (z_aa (.arr 8 1) v52 v51) H9 ⟨fun v53 H10 =>
 q' (ld' v53 H10) H10 ⟨fun v54 H11 =>
 q' (fa' 3 (fr 9)) H11 ⟨fun v55 H12 =>
 q' (ld' v55 H12) H12 ⟨fun v56 H13 =>
 q' (fa' 0 (fr 2)) H13 ⟨fun v57 H14 =>
 q' (z_aa (.arr 8 1) v57 v56) H14 ⟨fun v58 H15 =>
 q' (ld' v58 H15) H15 ⟨fun v59 H16 =>
 q' (some v49) H16 ⟨fun v14 H17 =>
 q' (some v54) H17 ⟨fun v15 H18 =>
 q' (some v59) H18 ⟨fun v16 H19 =>
 e' [(1, fr 1), (2, fr 2), (4, fr 4), (9, fr 9), (11, fr 11), (12, fr 12), (13, fr 13), (14, v14), (15, v15), (16, v16)] H19⟩⟩⟩⟩⟩⟩⟩⟩⟩⟩⟩⟩⟩⟩⟩⟩⟩⟩⟩)
@[simp] def r9 (fr : AFr) (H : Hp) : ARes :=
 areg (e' [(1, fr 1), (2, fr 2), (4, fr 4), (8, (.int .i64 0)), (9, fr 9), (11, fr 11), (12, fr 12), (13, fr 13), (14, fr 14), (15, fr 15), (16, fr 16)] H)
@[simp] def r10 (fr : AFr) (H : Hp) : ARes :=
 areg (q' (fa' 0 (fr 9)) H ⟨fun v60 H =>
 q' (ld' v60 H) H ⟨fun v61 H =>
 e' [(1, fr 1), (2, fr 2), (4, fr 4), (8, fr 8), (9, fr 9), (11, fr 11), (12, fr 12), (13, fr 13), (14, fr 14), (15, fr 15), (16, fr 16), (61, v61)] H⟩⟩)
@[simp] def r11 (fr : AFr) (H : Hp) : ARes :=
 areg (q' (bn' .eql (fr 61) (.int .i64 0)) H ⟨fun v63 H =>
 e' [(1, fr 1), (2, fr 2), (4, fr 4), (8, fr 8), (9, fr 9), (11, fr 11), (12, fr 12), (13, fr 13), (14, fr 14), (15, fr 15), (16, fr 16), (61, fr 61), (62, v63)] H⟩)
@[simp] def r12 (s2 : SpecP) (fr : AFr) (H : Hp) : ARes :=
 areg (q' (Ld' 13 (fr 2) H) H ⟨fun v64 H =>
 q' (fa' 1 (fr 9)) H ⟨fun v66 H =>
 q' (ld' v66 H) H ⟨fun v67 H =>
 o' (callP false s2 [[none, none, none, none, none, none, none, none, none, none, none, none, none], [none], [none]] [v64, (fr 11), v67] H) ⟨fun v68 H =>
 w' (z_ac (some 13) (fr 12) v68 H) ⟨fun _ H =>
 e' [(2, fr 2), (4, fr 4), (8, fr 8), (12, fr 12), (13, fr 13)] H⟩⟩⟩⟩⟩)
@[simp] def r13 (fr : AFr) (H : Hp) : ARes :=
 areg (q' (bn' .eql (fr 61) (.int .i64 1)) H ⟨fun v70 H =>
 e' [(1, fr 1), (2, fr 2), (4, fr 4), (8, fr 8), (9, fr 9), (11, fr 11), (12, fr 12), (13, fr 13), (14, fr 14), (15, fr 15), (16, fr 16), (61, fr 61), (69, v70)] H⟩)
@[simp] def r14 (s3 s4 : SpecP) (fr : AFr) (H : Hp) : ARes :=
 areg (q' (Ld' 13 (fr 2) H) H ⟨fun v71 H1 =>
 q' (some (fr 14)) H1 ⟨fun v72 H2 =>
 q' (some (fr 11)) H2 ⟨fun v73 H3 =>
 o' (callP false s3 [[none]] [v73] H3) ⟨fun v74 H4 =>
 o' (callP false s4 [[none, none, none, none, none, none, none, none, none, none, none, none, none], [none], [none], [none], [none]] [v71, v72, v74, (.bool true), (.int .i64 (-1))] H4) ⟨fun v75 H5 =>
 w' (z_ac (some 13) (fr 12) v75 H5) ⟨fun _ H6 =>
 z_bw [z_am (some (some 13)) (fr 2) H3 = z_am (some (some 13)) (fr 2) H4] (e' [(2, fr 2), (4, fr 4), (8, fr 8), (12, fr 12), (13, fr 13)] H6)⟩⟩⟩⟩⟩⟩)
@[simp] def r15 (fr : AFr) (H : Hp) : ARes :=
 areg (q' (bn' .eql (fr 61) (.int .i64 2)) H ⟨fun v77 H =>
 e' [(1, fr 1), (2, fr 2), (4, fr 4), (8, fr 8), (9, fr 9), (11, fr 11), (12, fr 12), (13, fr 13), (14, fr 14), (15, fr 15), (16, fr 16), (61, fr 61), (76, v77)] H⟩)
@[simp] def r16 (s4 : SpecP) (fr : AFr) (H : Hp) : ARes :=
 areg (q' (Ld' 13 (fr 2) H) H ⟨fun v78 H =>
 q' (fa' 1 (fr 9)) H ⟨fun v81 H =>
 q' (ld' v81 H) H ⟨fun v82 H =>
 o' (callP false s4 [[none, none, none, none, none, none, none, none, none, none, none, none, none], [none], [none], [none], [none]] [v78, (fr 14), (fr 11), (.bool false), v82] H) ⟨fun v83 H =>
 w' (z_ac (some 13) (fr 12) v83 H) ⟨fun _ H =>
 e' [(2, fr 2), (4, fr 4), (8, fr 8), (12, fr 12), (13, fr 13)] H⟩⟩⟩⟩⟩)
@[simp] def r17 (fr : AFr) (H : Hp) : ARes :=
 areg (q' (bn' .eql (fr 61) (.int .i64 3)) H ⟨fun v85 H =>
 e' [(1, fr 1), (2, fr 2), (4, fr 4), (8, fr 8), (9, fr 9), (11, fr 11), (12, fr 12), (13, fr 13), (14, fr 14), (15, fr 15), (16, fr 16), (61, fr 61), (84, v85)] H⟩)
@[simp] def r18 (s3 s4 : SpecP) (fr : AFr) (H : Hp) : ARes :=
 areg (q' (Ld' 13 (fr 2) H) H ⟨fun v86 H1 =>
 q' (some (fr 14)) H1 ⟨fun v87 H2 =>
 q' (some (fr 11)) H2 ⟨fun v88 H3 =>
 o' (callP false s3 [[none]] [v88] H3) ⟨fun v89 H4 =>
 q' (fa' 1 (fr 9)) H4 ⟨fun v90 H5 =>
 q' (ld' v90 H5) H5 ⟨fun v91 H6 =>
 o' (callP false s4 [[none, none, none, none, none, none, none, none, none, none, none, none, none], [none], [none], [none], [none]] [v86, v87, v89, (.bool true), v91] H6) ⟨fun v92 H7 =>
 w' (z_ac (some 13) (fr 12) v92 H7) ⟨fun _ H8 =>
 z_bw [z_am (some (some 13)) (fr 2) H3 = z_am (some (some 13)) (fr 2) H4, z_am (some none) v90 H3 = z_am (some none) v90 H4] (e' [(2, fr 2), (4, fr 4), (8, fr 8), (12, fr 12), (13, fr 13)] H8)⟩⟩⟩⟩⟩⟩⟩⟩)
@[simp] def r19 (fr : AFr) (H : Hp) : ARes :=
 areg (q' (bn' .eql (fr 61) (.int .i64 4)) H ⟨fun v94 H =>
 e' [(1, fr 1), (2, fr 2), (4, fr 4), (8, fr 8), (9, fr 9), (11, fr 11), (12, fr 12), (13, fr 13), (14, fr 14), (15, fr 15), (16, fr 16), (61, fr 61), (93, v94)] H⟩)
@[simp] def r20 (fr : AFr) (H : Hp) : ARes :=
 areg (q' (bn' .eql (fr 61) (.int .i64 5)) H ⟨fun v95 H =>
 e' [(1, fr 1), (2, fr 2), (4, fr 4), (8, fr 8), (9, fr 9), (11, fr 11), (12, fr 12), (13, fr 13), (14, fr 14), (15, fr 15), (16, fr 16), (61, fr 61), (93, v95)] H⟩)
@[simp] def r21 (fr : AFr) (H : Hp) : ARes :=
 areg (q' (bn' .eql (fr 61) (.int .i64 6)) H ⟨fun v96 H =>
 e' [(1, fr 1), (2, fr 2), (4, fr 4), (8, fr 8), (9, fr 9), (11, fr 11), (12, fr 12), (13, fr 13), (14, fr 14), (15, fr 15), (16, fr 16), (61, fr 61), (93, v96)] H⟩)
@[simp] def r22 (s5 : SpecP) (fr : AFr) (H : Hp) : ARes :=
 areg (q' (Ld' 13 (fr 2) H) H ⟨fun v97 H =>
 q' (fa' 0 (fr 9)) H ⟨fun v98 H =>
 q' (ld' v98 H) H ⟨fun v99 H =>
 q' (bn' .sub v99 (.int .i64 4)) H ⟨fun v100 H =>
 q' (fa' 1 (fr 9)) H ⟨fun v103 H =>
 q' (ld' v103 H) H ⟨fun v104 H =>
 o' (callP false s5 [[none, none, none, none, none, none, none, none, none, none, none, none, none], [none], [none], [none], [none]] [v97, v100, (fr 16), (fr 11), v104] H) ⟨fun v105 H =>
 w' (z_ac (some 13) (fr 12) v105 H) ⟨fun _ H =>
 e' [(2, fr 2), (4, fr 4), (8, fr 8), (12, fr 12), (13, fr 13)] H⟩⟩⟩⟩⟩⟩⟩⟩)
@[simp] def r23 (fr : AFr) (H : Hp) : ARes :=
 areg (q' (bn' .eql (fr 61) (.int .i64 7)) H ⟨fun v107 H =>
 e' [(1, fr 1), (2, fr 2), (4, fr 4), (8, fr 8), (9, fr 9), (11, fr 11), (12, fr 12), (13, fr 13), (14, fr 14), (15, fr 15), (16, fr 16), (61, fr 61), (106, v107)] H⟩)
@[simp] def r24 (s4 : SpecP) (fr : AFr) (H : Hp) : ARes :=
 areg (q' (Ld' 13 (fr 2) H) H ⟨fun v108 H =>
 q' (fa' 1 (fr 9)) H ⟨fun v111 H =>
 q' (ld' v111 H) H ⟨fun v112 H =>
 o' (callP false s4 [[none, none, none, none, none, none, none, none, none, none, none, none, none], [none], [none], [none], [none]] [v108, (fr 15), (fr 16), (.bool false), v112] H) ⟨fun v113 H =>
 w' (z_ac (some 13) (fr 12) v113 H) ⟨fun _ H =>
 e' [(2, fr 2), (4, fr 4), (8, fr 8), (12, fr 12), (13, fr 13)] H⟩⟩⟩⟩⟩)
@[simp] def r25 (fr : AFr) (H : Hp) : ARes :=
 areg (q' (bn' .eql (fr 61) (.int .i64 8)) H ⟨fun v115 H =>
 e' [(1, fr 1), (2, fr 2), (4, fr 4), (8, fr 8), (9, fr 9), (11, fr 11), (12, fr 12), (13, fr 13), (14, fr 14), (15, fr 15), (16, fr 16), (61, fr 61), (114, v115)] H⟩)
@[simp] def r26 (s3 s4 : SpecP) (fr : AFr) (H : Hp) : ARes :=
 areg (q' (Ld' 13 (fr 2) H) H ⟨fun v116 H1 =>
 q' (some (fr 15)) H1 ⟨fun v117 H2 =>
 q' (some (fr 16)) H2 ⟨fun v118 H3 =>
 o' (callP false s3 [[none]] [v118] H3) ⟨fun v119 H4 =>
 q' (fa' 1 (fr 9)) H4 ⟨fun v120 H5 =>
 q' (ld' v120 H5) H5 ⟨fun v121 H6 =>
 o' (callP false s4 [[none, none, none, none, none, none, none, none, none, none, none, none, none], [none], [none], [none], [none]] [v116, v117, v119, (.bool true), v121] H6) ⟨fun v122 H7 =>
 w' (z_ac (some 13) (fr 12) v122 H7) ⟨fun _ H8 =>
 z_bw [z_am (some (some 13)) (fr 2) H3 = z_am (some (some 13)) (fr 2) H4, z_am (some none) v120 H3 = z_am (some none) v120 H4] (e' [(2, fr 2), (4, fr 4), (8, fr 8), (12, fr 12), (13, fr 13)] H8)⟩⟩⟩⟩⟩⟩⟩⟩)
@[simp] def r27 (fr : AFr) (H : Hp) : ARes :=
 areg (q' (bn' .eql (fr 61) (.int .i64 9)) H ⟨fun v124 H =>
 e' [(1, fr 1), (2, fr 2), (4, fr 4), (8, fr 8), (9, fr 9), (11, fr 11), (12, fr 12), (13, fr 13), (14, fr 14), (15, fr 15), (16, fr 16), (61, fr 61), (123, v124)] H⟩)
@[simp] def r28 (s4 : SpecP) (fr : AFr) (H : Hp) : ARes :=
 areg (q' (Ld' 13 (fr 2) H) H ⟨fun v125 H =>
 q' (fa' 1 (fr 9)) H ⟨fun v128 H =>
 q' (ld' v128 H) H ⟨fun v129 H =>
 o' (callP false s4 [[none, none, none, none, none, none, none, none, none, none, none, none, none], [none], [none], [none], [none]] [v125, (fr 15), (fr 11), (.bool false), v129] H) ⟨fun v130 H =>
 w' (z_ac (some 13) (fr 12) v130 H) ⟨fun _ H =>
 e' [(2, fr 2), (4, fr 4), (8, fr 8), (12, fr 12), (13, fr 13)] H⟩⟩⟩⟩⟩)
@[simp] def r29 (fr : AFr) (H : Hp) : ARes :=
 areg (q' (bn' .eql (fr 61) (.int .i64 10)) H ⟨fun v132 H =>
 e' [(1, fr 1), (2, fr 2), (4, fr 4), (8, fr 8), (9, fr 9), (11, fr 11), (12, fr 12), (13, fr 13), (14, fr 14), (15, fr 15), (16, fr 16), (61, fr 61), (131, v132)] H⟩)
@[simp] def r30 (s3 s4 : SpecP) (fr : AFr) (H : Hp) : ARes :=
 areg (q' (Ld' 13 (fr 2) H) H ⟨fun v133 H1 =>
 q' (some (fr 15)) H1 ⟨fun v134 H2 =>
 q' (some (fr 11)) H2 ⟨fun v135 H3 =>
 o' (callP false s3 [[none]] [v135] H3) ⟨fun v136 H4 =>
 q' (fa' 1 (fr 9)) H4 ⟨fun v137 H5 =>
 q' (ld' v137 H5) H5 ⟨fun v138 H6 =>
 o' (callP false s4 [[none, none, none, none, none, none, none, none, none, none, none, none, none], [none], [none], [none], [none]] [v133, v134, v136, (.bool true), v138] H6) ⟨fun v139 H7 =>
 w' (z_ac (some 13) (fr 12) v139 H7) ⟨fun _ H8 =>
 z_bw [z_am (some (some 13)) (fr 2) H3 = z_am (some (some 13)) (fr 2) H4, z_am (some none) v137 H3 = z_am (some none) v137 H4] (e' [(2, fr 2), (4, fr 4), (8, fr 8), (12, fr 12), (13, fr 13)] H8)⟩⟩⟩⟩⟩⟩⟩⟩)
@[simp] def r31 (fr : AFr) (H : Hp) : ARes :=
 areg (q' (bn' .eql (fr 61) (.int .i64 11)) H ⟨fun v141 H =>
 e' [(1, fr 1), (2, fr 2), (4, fr 4), (8, fr 8), (9, fr 9), (11, fr 11), (12, fr 12), (13, fr 13), (14, fr 14), (15, fr 15), (16, fr 16), (61, fr 61), (140, v141)] H⟩)
@[simp] def r32 (s6 : SpecP) (fr : AFr) (H : Hp) : ARes :=
 areg (q' (Ld' 13 (fr 2) H) H ⟨fun v142 H =>
 q' (fa' 4 (fr 9)) H ⟨fun v143 H =>
 q' (ld' v143 H) H ⟨fun v144 H =>
 q' (fa' 1 (fr 9)) H ⟨fun v145 H =>
 q' (ld' v145 H) H ⟨fun v146 H =>
 o' (callP false s6 [[none, none, none, none, none, none, none, none, none, none, none, none, none], [none], [none], [none], [none]] [v142, v144, v146, (fr 14), (fr 16)] H) ⟨fun v149 H =>
 w' (z_ac (some 13) (fr 12) v149 H) ⟨fun _ H =>
 e' [(2, fr 2), (4, fr 4), (8, fr 8), (12, fr 12), (13, fr 13)] H⟩⟩⟩⟩⟩⟩⟩)
@[simp] def r33 (fr : AFr) (H : Hp) : ARes :=
 areg (q' (bn' .eql (fr 61) (.int .i64 12)) H ⟨fun v151 H =>
 e' [(1, fr 1), (2, fr 2), (4, fr 4), (8, fr 8), (9, fr 9), (11, fr 11), (12, fr 12), (13, fr 13), (14, fr 14), (15, fr 15), (16, fr 16), (61, fr 61), (150, v151)] H⟩)
@[simp] def r34 (s7 : SpecM) (fr : AFr) (H : Hp) : ARes :=
 areg (q' (fa' 1 (fr 9)) H ⟨fun v153 H1 =>
 q' (ld' v153 H1) H1 ⟨fun v154 H2 =>
 q' (some (fr 1)) H2 ⟨fun v155 H3 =>
 q' (some (fr 15)) H3 ⟨fun v156 H4 =>
 q' (some (fr 11)) H4 ⟨fun v157 H5 =>
 q' (bn' .mul (W32 4#32) v157) H5 ⟨fun v158 H6 =>
 q' (bn' .add v156 v158) H6 ⟨fun v159 H7 =>
 o' (san H7 (callM [false, false] s7 [[none], [none]] [v155, v159] H7)) ⟨fun v160 H8 =>
 q' (some v160) H8 ⟨fun v152 H9 =>
 q' (aextract v152 0) H9 ⟨fun v161 H10 =>
 q' (aextract v152 1) H10 ⟨fun v162 H11 =>
 q' (fa' 0 (fr 12)) H11 ⟨fun v163 H12 =>
 q' (z_aa (.arr 8 1) v163 v154) H12 ⟨fun v164 H13 =>
 w' (z_ac (some 1) v164 v161 H13) ⟨fun _ H14 =>
 q' (some v162) H14 ⟨fun v8 H15 =>
 z_bw [z_am (some none) v153 H7 = z_am (some none) v153 H8] (e' [(2, fr 2), (4, fr 4), (8, v8), (12, fr 12), (13, fr 13)] H15)⟩⟩⟩⟩⟩⟩⟩⟩⟩⟩⟩⟩⟩⟩⟩)
@[simp] def r35 (fr : AFr) (H : Hp) : ARes :=
 areg (q' (bn' .eql (fr 61) (.int .i64 13)) H ⟨fun v166 H =>
 e' [(1, fr 1), (2, fr 2), (4, fr 4), (8, fr 8), (9, fr 9), (11, fr 11), (12, fr 12), (13, fr 13), (14, fr 14), (15, fr 15), (16, fr 16), (61, fr 61), (165, v166)] H⟩)
@[simp] def r36 (s8 : SpecM) (fr : AFr) (H : Hp) : ARes :=
 areg (q' (bn' .mul (W32 4#32) (fr 11)) H ⟨fun v170 H =>
 q' (bn' .add (fr 15) v170) H ⟨fun v171 H =>
 o' (callM [false, false, false] s8 [[none], [none], [none]] [(fr 1), v171, (fr 14)] H) ⟨fun v173 H =>
 e' [(2, fr 2), (4, fr 4), (8, v173), (12, fr 12), (13, fr 13)] H⟩⟩⟩)
@[simp] def r37 (fr : AFr) (H : Hp) : ARes :=
 areg (q' (bn' .eql (fr 61) (.int .i64 14)) H ⟨fun v175 H =>
 e' [(1, fr 1), (2, fr 2), (4, fr 4), (8, fr 8), (9, fr 9), (11, fr 11), (12, fr 12), (13, fr 13), (14, fr 14), (15, fr 15), (16, fr 16), (61, fr 61), (174, v175)] H⟩)
@[simp] def r38 (s7 : SpecM) (fr : AFr) (H : Hp) : ARes :=
 areg (q' (fa' 1 (fr 9)) H ⟨fun v177 H1 =>
 q' (ld' v177 H1) H1 ⟨fun v178 H2 =>
 q' (some (fr 1)) H2 ⟨fun v179 H3 =>
 q' (some (fr 15)) H3 ⟨fun v180 H4 =>
 q' (some (fr 16)) H4 ⟨fun v181 H5 =>
 q' (bn' .add v180 v181) H5 ⟨fun v182 H6 =>
 o' (san H6 (callM [false, false] s7 [[none], [none]] [v179, v182] H6)) ⟨fun v183 H7 =>
 q' (some v183) H7 ⟨fun v176 H8 =>
 q' (aextract v176 0) H8 ⟨fun v184 H9 =>
 q' (aextract v176 1) H9 ⟨fun v185 H10 =>
 q' (fa' 0 (fr 12)) H10 ⟨fun v186 H11 =>
 q' (z_aa (.arr 8 1) v186 v178) H11 ⟨fun v187 H12 =>
 w' (z_ac (some 1) v187 v184 H12) ⟨fun _ H13 =>
 q' (some v185) H13 ⟨fun v8 H14 =>
 z_bw [z_am (some none) v177 H6 = z_am (some none) v177 H7] (e' [(2, fr 2), (4, fr 4), (8, v8), (12, fr 12), (13, fr 13)] H14)⟩⟩⟩⟩⟩⟩⟩⟩⟩⟩⟩⟩⟩⟩)
@[simp] def r39 (fr : AFr) (H : Hp) : ARes :=
 areg (q' (bn' .eql (fr 61) (.int .i64 15)) H ⟨fun v189 H =>
 e' [(1, fr 1), (2, fr 2), (4, fr 4), (8, fr 8), (9, fr 9), (11, fr 11), (12, fr 12), (13, fr 13), (14, fr 14), (15, fr 15), (16, fr 16), (61, fr 61), (188, v189)] H⟩)
@[simp] def r40 (s8 : SpecM) (fr : AFr) (H : Hp) : ARes :=
 areg (q' (bn' .add (fr 15) (fr 16)) H ⟨fun v193 H =>
 o' (callM [false, false, false] s8 [[none], [none], [none]] [(fr 1), v193, (fr 14)] H) ⟨fun v195 H =>
 e' [(2, fr 2), (4, fr 4), (8, v195), (12, fr 12), (13, fr 13)] H⟩⟩)
@[simp] def r41 (fr : AFr) (H : Hp) : ARes :=
 areg (q' (bn' .eql (fr 61) (.int .i64 16)) H ⟨fun v197 H =>
 e' [(1, fr 1), (2, fr 2), (4, fr 4), (8, fr 8), (9, fr 9), (11, fr 11), (12, fr 12), (13, fr 13), (61, fr 61), (196, v197)] H⟩)
@[simp] def r42 (s7 : SpecM) (fr : AFr) (H : Hp) : ARes :=
 areg (q' (fa' 1 (fr 9)) H ⟨fun v199 H1 =>
 q' (ld' v199 H1) H1 ⟨fun v200 H2 =>
 q' (some (fr 1)) H2 ⟨fun v201 H3 =>
 q' (fa' 8 (fr 2)) H3 ⟨fun v202 H4 =>
 q' (ld' v202 H4) H4 ⟨fun v203 H5 =>
 q' (bn' .add v203 (W32 4#32)) H5 ⟨fun v204 H6 =>
 q' (bn' .quo v204 (W32 4#32)) H6 ⟨fun v205 H7 =>
 q' (bn' .mul v205 (W32 4#32)) H7 ⟨fun v206 H8 =>
 q' (some (fr 11)) H8 ⟨fun v207 H9 =>
 q' (bn' .mul (W32 4#32) v207) H9 ⟨fun v208 H10 =>
 q' (bn' .add v206 v208) H10 ⟨fun v209 H11 =>
 o' (san H11 (callM [false, false] s7 [[none], [none]] [v201, v209] H11)) ⟨fun v210 H12 =>
 q' (some v210) H12 ⟨fun v198 H13 =>
 q' (aextract v198 0) H13 ⟨fun v211 H14 =>
 q' (aextract v198 1) H14 ⟨fun v212 H15 =>
 q' (fa' 0 (fr 12)) H15 ⟨fun v213 H16 =>
 q' (z_aa (.arr 8 1) v213 v200) H16 ⟨fun v214 H17 =>
 w' (z_ac (some 1) v214 v211 H17) ⟨fun _ H18 =>
 q' (some v212) H18 ⟨fun v8 H19 =>
 z_bw [z_am (some none) v199 H11 = z_am (some none) v199 H12] (e' [(2, fr 2), (4, fr 4), (8, v8), (12, fr 12), (13, fr 13)] H19)⟩⟩⟩⟩⟩⟩⟩⟩⟩⟩⟩⟩⟩⟩⟩⟩⟩⟩⟩)
@[simp] def r43 (fr : AFr) (H : Hp) : ARes :=
 areg (q' (bn' .eql (fr 61) (.int .i64 17)) H ⟨fun v216 H =>
 e' [(2, fr 2), (4, fr 4), (8, fr 8), (9, fr 9), (11, fr 11), (12, fr 12), (13, fr 13), (61, fr 61), (215, v216)] H⟩)
@[simp] def r44 (fr : AFr) (H : Hp) : ARes :=
 areg (q' (fa' 8 (fr 2)) H ⟨fun v217 H =>
 q' (ld' v217 H) H ⟨fun v218 H =>
 q' (bn' .add v218 (W32 4#32)) H ⟨fun v219 H =>
 q' (bn' .add v219 (fr 11)) H ⟨fun v221 H =>
 q' (bn' .add v221 (fr 11)) H ⟨fun v223 H =>
 e' [(2, fr 2), (4, fr 4), (8, fr 8), (12, fr 12), (13, v223)] H⟩⟩⟩⟩⟩)
@[simp] def r45 (fr : AFr) (H : Hp) : ARes :=
 areg (q' (bn' .eql (fr 61) (.int .i64 18)) H ⟨fun v225 H =>
 e' [(2, fr 2), (4, fr 4), (8, fr 8), (9, fr 9), (11, fr 11), (12, fr 12), (13, fr 13), (61, fr 61), (224, v225)] H⟩)
@[simp] def r46 (s9 : SpecP) (fr : AFr) (H : Hp) : ARes :=
 areg (q' (fa' 1 (fr 9)) H ⟨fun v226 H =>
 q' (ld' v226 H) H ⟨fun v227 H =>
 q' (Ld' 13 (fr 2) H) H ⟨fun v228 H =>
 o' (callP false s9 [[none], [none, none, none, none, none, none, none, none, none, none, none, none, none]] [v227, v228] H) ⟨fun v229 H =>
 e' [(2, fr 2), (4, fr 4), (8, fr 8), (11, fr 11), (12, fr 12), (13, fr 13), (229, v229)] H⟩⟩⟩⟩)
@[simp] def r47 (fr : AFr) (H : Hp) : ARes :=
 areg (q' (fa' 8 (fr 2)) H ⟨fun v230 H =>
 q' (ld' v230 H) H ⟨fun v231 H =>
 q' (bn' .add v231 (W32 4#32)) H ⟨fun v232 H =>
 q' (bn' .add v232 (fr 11)) H ⟨fun v234 H =>
 q' (bn' .add v234 (fr 11)) H ⟨fun v236 H =>
 e' [(2, fr 2), (4, fr 4), (8, fr 8), (12, fr 12), (13, v236)] H⟩⟩⟩⟩⟩)
@[simp] def r48 (fr : AFr) (H : Hp) : ARes :=
 areg (q' (bn' .eql (fr 61) (.int .i64 20)) H ⟨fun v238 H =>
 e' [(2, fr 2), (4, fr 4), (8, fr 8), (12, fr 12), (13, fr 13), (237, v238)] H⟩)
@[simp] def r49 (fr : AFr) (H : Hp) : ARes :=
 areg (q' (Ld' 13 (fr 2) H) H ⟨fun v239 H =>
 w' (z_ac (some 13) (fr 4) v239 H) ⟨fun _ H =>
 e' [(4, fr 4), (5, (.bool true)), (6, (.int .i64 0))] H⟩⟩)
@[simp] def r50 (fr : AFr) (H : Hp) : ARes :=
 areg (q' (bn' .neq (fr 8) (.int .i64 0)) H ⟨fun v241 H =>
 e' [(2, fr 2), (4, fr 4), (8, fr 8), (12, fr 12), (13, fr 13), (241, v241)] H⟩)
@[simp] def r51 (fr : AFr) (H : Hp) : ARes :=
 areg (q' (Ld' 13 (fr 2) H) H ⟨fun v242 H =>
 w' (z_ac (some 13) (fr 4) v242 H) ⟨fun _ H =>
 e' [(4, fr 4), (5, (.bool false)), (6, (fr 8))] H⟩⟩)
@[simp] def r52 (fr : AFr) (H : Hp) : ARes :=
 areg (q' (fa' 8 (fr 12)) H ⟨fun v245 H =>
 w' (z_ac (some 1) v245 (fr 13) H) ⟨fun _ H =>
 e' [(4, fr 4), (12, fr 12)] H⟩⟩)
@[simp] def r53 (fr : AFr) (H : Hp) : ARes :=
 areg (q' (Ld' 13 (fr 12) H) H ⟨fun v246 H =>
 w' (z_ac (some 13) (fr 4) v246 H) ⟨fun _ H =>
 e' [(4, fr 4), (5, (.bool false)), (6, (.int .i64 0))] H⟩⟩)
@[simp] def body (s0 : SpecM) (s1 s2 s3 s4 s5 s6 : SpecP) (s7 s8 : SpecM) (s9 : SpecP) (fr : AFr) (H : Hp) : ARes :=
 s' (r0 fr H) ⟨fun fr H =>
 s' (r1 s0 fr H) ⟨fun fr H =>
 s' (s' (r2 fr H) ⟨fun fr H =>
 c' (fr 25)
 ⟨s' (r3 fr H) ⟨fun fr H =>
 some (.ret, fr, H)⟩⟩
 ⟨some (.normal, fr, H)⟩⟩) ⟨fun fr H =>
 s' (r4 s1 fr H) ⟨fun fr H =>
 s' (s' (r5 fr H) ⟨fun fr H =>
 c' (fr 34)
 ⟨s' (r6 fr H) ⟨fun fr H =>
 some (.ret, fr, H)⟩⟩
 ⟨some (.normal, fr, H)⟩⟩) ⟨fun fr H =>
 s' (r7 fr H) ⟨fun fr H =>
 s' (r8 fr H) ⟨fun fr H =>
 s' (r9 fr H) ⟨fun fr H =>
 s' (s' (r10 fr H) ⟨fun fr H =>
 aexit 0 (s' (r11 fr H) ⟨fun fr H =>
 c' (fr 62)
 ⟨r12 s2 fr H⟩
 ⟨s' (r13 fr H) ⟨fun fr H =>
 c' (fr 69)
 ⟨r14 s3 s4 fr H⟩
 ⟨s' (r15 fr H) ⟨fun fr H =>
 c' (fr 76)
 ⟨r16 s4 fr H⟩
 ⟨s' (r17 fr H) ⟨fun fr H =>
 c' (fr 84)
 ⟨r18 s3 s4 fr H⟩
 ⟨s' (s' (r19 fr H) ⟨fun fr H =>
 c' (fr 93)
 ⟨some (.normal, fr, H)⟩
 ⟨s' (r20 fr H) ⟨fun fr H =>
 c' (fr 93)
 ⟨some (.normal, fr, H)⟩
 ⟨r21 fr H⟩⟩⟩⟩) ⟨fun fr H =>
 c' (fr 93)
 ⟨r22 s5 fr H⟩
 ⟨s' (r23 fr H) ⟨fun fr H =>
 c' (fr 106)
 ⟨r24 s4 fr H⟩
 ⟨s' (r25 fr H) ⟨fun fr H =>
 c' (fr 114)
 ⟨r26 s3 s4 fr H⟩
 ⟨s' (r27 fr H) ⟨fun fr H =>
 c' (fr 123)
 ⟨r28 s4 fr H⟩
 ⟨s' (r29 fr H) ⟨fun fr H =>
 c' (fr 131)
 ⟨r30 s3 s4 fr H⟩
 ⟨s' (r31 fr H) ⟨fun fr H =>
 c' (fr 140)
 ⟨r32 s6 fr H⟩
 ⟨s' (r33 fr H) ⟨fun fr H =>
 c' (fr 150)
 ⟨r34 s7 fr H⟩
 ⟨s' (r35 fr H) ⟨fun fr H =>
 c' (fr 165)
 ⟨r36 s8 fr H⟩
 ⟨s' (r37 fr H) ⟨fun fr H =>
 c' (fr 174)
 ⟨r38 s7 fr H⟩
 ⟨s' (r39 fr H) ⟨fun fr H =>
 c' (fr 188)
 ⟨r40 s8 fr H⟩
 ⟨s' (r41 fr H) ⟨fun fr H =>
 c' (fr 196)
 ⟨r42 s7 fr H⟩
 ⟨s' (r43 fr H) ⟨fun fr H =>
 c' (fr 215)
 ⟨r44 fr H⟩
 ⟨s' (r45 fr H) ⟨fun fr H =>
 c' (fr 224)
 ⟨s' (r46 s9 fr H) ⟨fun fr H =>
 c' (fr 229)
 ⟨r47 fr H⟩
 ⟨some (.normal, fr, H)⟩⟩⟩
 ⟨s' (r48 fr H) ⟨fun fr H =>
 c' (fr 237)
 ⟨s' (r49 fr H) ⟨fun fr H =>
 some (.ret, fr, H)⟩⟩
 ⟨some (.normal, fr, H)⟩⟩⟩⟩⟩⟩⟩⟩⟩⟩⟩⟩⟩⟩⟩⟩⟩⟩⟩⟩⟩⟩⟩⟩⟩⟩⟩⟩⟩⟩⟩⟩⟩⟩⟩⟩)⟩) ⟨fun fr H =>
 s' (s' (r50 fr H) ⟨fun fr H =>
 c' (fr 241)
 ⟨s' (r51 fr H) ⟨fun fr H =>
 some (.ret, fr, H)⟩⟩
 ⟨some (.normal, fr, H)⟩⟩) ⟨fun fr H =>
 s' (r52 fr H) ⟨fun fr H =>
 s' (r53 fr H) ⟨fun fr H =>
 some (.ret, fr, H)⟩⟩⟩⟩⟩⟩⟩⟩⟩⟩⟩⟩
@[simp] def res (fr : AFr) (H : Hp) : Option (List AV) := res2 (z_am (some (some 13)) (fr 4) H) (res2 (some (fr 5)) (res2 (some (fr 6)) (some [])))
end z_av
def z_av (a0 a1 : AV) (H : Hp) : Option (AV × Hp) := forget H (afinR z_av.res (z_av.body z_ay.spec z_az.spec z_ca.spec z_dh.spec z_cz.spec z_ch.spec z_ar.spec z_au.spec z_a6.spec z_bm.spec (args0 [a0, a1]) H))
def z_av.spec : List AV → Hp → Option (AV × Hp)
 | [a0, a1], H => z_av a0 a1 H
 | _, _ => none
end
end Go.Abs
end
section
namespace Go.Abs
noncomputable section
namespace z_by
def C (s0 s1 : SpecM) (s2 s3 : SpecP) : Tab := ((((Tab.none.add 123 (.ref [true, false] s0)).add 124 (.ref [false, false] s1)).add 83 (.pure false s2)).add 16 (.pure false s3))
@[simp] def r0 (fr : AFr) (H : Hp) : ARes :=
 areg (o' (abox T.ty_api_State (fr 0) H) ⟨fun v2 H =>
 o' (z_bo T.ty_api_State (some (.agg [(W32 0#32), (W32 0#32), (W32 0#32), (W32 0#32), (W32 0#32), (W32 0#32), (W32 0#32), (W32 0#32), (W32 0#32), (.bool false), (.bool false), (.bool false), (.bool false)])) H) ⟨fun v4 H =>
 o' (z_bo T.ty_api_Leak (some (.agg [(W32 0#32), (W16 0#16), (W32 0#32), (W32 0#32), (W32 0#32), (W32 0#32), (W32 0#32), (W32 0#32), (.bool false), (.bool false)])) H) ⟨fun v5 H =>
 e' [(1, fr 1), (2, v2), (4, v4), (5, v5)] H⟩⟩⟩)
@[simp] def r1 (fr : AFr) (H : Hp) : ARes :=
 areg (q' (anil (fr 1)) H ⟨fun v22 H =>
 q' (fa' 4 v22) H ⟨fun v23 H =>
 q' (ld' v23 H) H ⟨fun v24 H =>
 e' [(1, fr 1), (2, fr 2), (4, fr 4), (5, fr 5), (8, v24)] H⟩⟩⟩)
@[simp] def r2 (s0 : SpecM) (fr : AFr) (H : Hp) : ARes :=
 areg (q' (Ld' 13 (fr 2) H) H ⟨fun v26 H =>
 o' (callM [true, false] s0 [[none, none, none, none, none, none, none, none, none, none, none, none, none], [none]] [v26, (fr 1)] H) ⟨fun v28 H =>
 q' (aextract v28 0) H ⟨fun v29 H =>
 q' (aextract v28 1) H ⟨fun v30 H =>
 q' (aextract v28 2) H ⟨fun v31 H =>
 o' (z_bo T.ty_api_State (some (.agg [(W32 0#32), (W32 0#32), (W32 0#32), (W32 0#32), (W32 0#32), (W32 0#32), (W32 0#32), (W32 0#32), (W32 0#32), (.bool false), (.bool false), (.bool false), (.bool false)])) H) ⟨fun v9 H =>
 w' (z_ac (some 13) v9 v29 H) ⟨fun _ H =>
 e' [(1, fr 1), (2, fr 2), (4, fr 4), (5, fr 5), (8, fr 8), (9, v9), (10, v30), (11, v31)] H⟩⟩⟩⟩⟩⟩⟩)
@[simp] def r3 (fr : AFr) (H : Hp) : ARes :=
 areg (q' (bn' .neq (fr 11) (.int .i64 0)) H ⟨fun v33 H =>
 e' [(1, fr 1), (2, fr 2), (4, fr 4), (5, fr 5), (8, fr 8), (9, fr 9), (10, fr 10), (11, fr 11), (33, v33)] H⟩)
@[simp] def r4 (fr : AFr) (H : Hp) : ARes :=
 areg (q' (Ld' 13 (fr 9) H) H ⟨fun v34 H =>
 q' (z_a3 (.str [(W32 0#32), (W16 0#16), (W32 0#32), (W32 0#32), (W32 0#32), (W32 0#32), (W32 0#32), (W32 0#32), (.bool false), (.bool false)] [(0, 1), (1, 1), (2, 1), (3, 1), (4, 1), (5, 1), (6, 1), (7, 1), (8, 1), (9, 1)]) []) H ⟨fun v35 H =>
 w' (z_ac (some 13) (fr 4) v34 H) ⟨fun _ H =>
 w' (z_ac (some 10) (fr 5) v35 H) ⟨fun _ H =>
 e' [(4, fr 4), (5, fr 5), (6, (fr 10)), (7, (fr 11))] H⟩⟩⟩⟩)
@[simp] def r5 (s1 : SpecM) (fr : AFr) (H : Hp) : ARes :=
 areg (q' (fa' 8 (fr 2)) H ⟨fun v40 H =>
 q' (ld' v40 H) H ⟨fun v41 H =>
 o' (callM [false, false] s1 [[none], [none]] [(fr 1), v41] H) ⟨fun v42 H =>
 q' (aextract v42 0) H ⟨fun v43 H =>
 q' (aextract v42 1) H ⟨fun v44 H =>
 e' [(2, fr 2), (4, fr 4), (5, fr 5), (8, fr 8), (9, fr 9), (10, fr 10), (12, v43)] H⟩⟩⟩⟩⟩)
@[simp] def r6 (s2 : SpecP) (fr : AFr) (H : Hp) : ARes :=
 areg (o' (callP false s2 [[none]] [(fr 12)] H) ⟨fun v47 H =>
 q' (aextract v47 0) H ⟨fun v48 H =>
 q' (aextract v47 1) H ⟨fun v49 H =>
 o' (z_bo T.ty_api_Ins (some (.agg [(.int .i64 0), (.int .i64 0), (.int .i64 0), (.int .i64 0), (.int .i64 0)])) H) ⟨fun v14 H =>
 w' (z_ac (some 5) v14 v48 H) ⟨fun _ H =>
 e' [(2, fr 2), (4, fr 4), (5, fr 5), (8, fr 8), (9, fr 9), (10, fr 10), (12, fr 12), (14, v14)] H⟩⟩⟩⟩⟩)
@[simp] def r7 (fr : AFr) (H : Hp) : ARes :=
 areg (q' (fa' 8 (fr 2)) H ⟨fun v50 H =>
 q' (ld' v50 H) H ⟨fun v51 H =>
 q' (z_a3 (.str [(W32 0#32), (W16 0#16), (W32 0#32), (W32 0#32), (W32 0#32), (W32 0#32), (W32 0#32), (W32 0#32), (.bool false), (.bool false)] [(0, 1), (1, 1), (2, 1), (3, 1), (4, 1), (5, 1), (6, 1), (7, 1), (8, 1), (9, 1)]) [(0, v51), (1, (fr 12)), (6, (fr 8))]) H ⟨fun v54 H =>
 o' (z_bo T.ty_api_Leak (some (.agg [(W32 0#32), (W16 0#16), (W32 0#32), (W32 0#32), (W32 0#32), (W32 0#32), (W32 0#32), (W32 0#32), (.bool false), (.bool false)])) H) ⟨fun v16 H =>
 w' (z_ac (some 10) v16 v54 H) ⟨fun _ H =>
 e' [(2, fr 2), (4, fr 4), (5, fr 5), (9, fr 9), (10, fr 10), (14, fr 14), (16, v16)] H⟩⟩⟩⟩⟩)
@[simp] def r8 (fr : AFr) (H : Hp) : ARes :=
 areg (q' (fa' 0 (fr 14)) H ⟨fun v55 H1 =>
 q' (ld' v55 H1) H1 ⟨fun v56 H2 =>
 q' (fa' 4 (fr 14)) H2 ⟨fun v57 H3 =>
 q' (ld' v57 H3) H3 ⟨fun v58 H4 =>
 q' (z_du (some .u32) v58) H4 ⟨fun v59 H5 =>
 q' (some v56) H5 ⟨fun v17 H6 =>
 q' (some v59) H6 ⟨fun v18 H7 =>
 e' [(2, fr 2), (4, fr 4), (5, fr 5), (9, fr 9), (10, fr 10), (14, fr 14), (16, fr 16), (17, v17), (18, v18)] H7⟩⟩⟩⟩⟩⟩⟩)
@[simp] def r9 (fr : AFr) (H : Hp) : ARes :=
 areg (q' (bn' .leq (fr 17) (.int .i64 3)) H ⟨fun v61 H =>
 G' v61 false ⟨some (fr 17)⟩ H ⟨fun v63 H =>
 G' v61 false ⟨bn' .geq v63 (.int .i64 4)⟩ H ⟨fun v64 H =>
 G' v61 false ⟨some v64⟩ H ⟨fun v65 H =>
 G' v65 true ⟨some (fr 17)⟩ H ⟨fun v66 H =>
 G' v65 true ⟨bn' .leq v66 (.int .i64 6)⟩ H ⟨fun v67 H =>
 G' v61 false ⟨apick v65 v67 (.bool false)⟩ H ⟨fun v68 H =>
 q' (apick v61 (.bool true) v68) H ⟨fun v69 H =>
 G' v69 false ⟨some (fr 17)⟩ H ⟨fun v71 H =>
 G' v69 false ⟨bn' .eql v71 (.int .i64 9)⟩ H ⟨fun v72 H =>
 q' (apick v69 (.bool true) v72) H ⟨fun v73 H =>
 G' v73 false ⟨some (fr 17)⟩ H ⟨fun v75 H =>
 G' v73 false ⟨bn' .eql v75 (.int .i64 10)⟩ H ⟨fun v76 H =>
 q' (apick v73 (.bool true) v76) H ⟨fun v77 H =>
 e' [(2, fr 2), (4, fr 4), (5, fr 5), (9, fr 9), (10, fr 10), (14, fr 14), (16, fr 16), (17, fr 17), (18, fr 18), (77, v77)] H⟩⟩⟩⟩⟩⟩⟩⟩⟩⟩⟩⟩⟩⟩)
@[simp] def r10 (fr : AFr) (H : Hp) : ARes :=
 areg (q' (fa' 3 (fr 16)) H ⟨fun v79 H =>
 w' (z_ac (some 1) v79 (fr 18) H) ⟨fun _ H =>
 e' [(2, fr 2), (4, fr 4), (5, fr 5), (9, fr 9), (10, fr 10), (14, fr 14), (16, fr 16), (17, fr 17), (18, fr 18)] H⟩⟩)
@[simp] def r11 (fr : AFr) (H : Hp) : ARes :=
 areg (q' (bn' .geq (fr 17) (.int .i64 1)) H ⟨fun v81 H =>
 G' v81 true ⟨some (fr 17)⟩ H ⟨fun v83 H =>
 G' v81 true ⟨bn' .leq v83 (.int .i64 3)⟩ H ⟨fun v84 H =>
 q' (apick v81 v84 (.bool false)) H ⟨fun v85 H =>
 G' v85 false ⟨some (fr 17)⟩ H ⟨fun v87 H =>
 G' v85 false ⟨bn' .eql v87 (.int .i64 11)⟩ H ⟨fun v88 H =>
 q' (apick v85 (.bool true) v88) H ⟨fun v89 H =>
 G' v89 false ⟨some (fr 17)⟩ H ⟨fun v91 H =>
 G' v89 false ⟨bn' .eql v91 (.int .i64 13)⟩ H ⟨fun v92 H =>
 q' (apick v89 (.bool true) v92) H ⟨fun v93 H =>
 G' v93 false ⟨some (fr 17)⟩ H ⟨fun v95 H =>
 G' v93 false ⟨bn' .eql v95 (.int .i64 15)⟩ H ⟨fun v96 H =>
 q' (apick v93 (.bool true) v96) H ⟨fun v97 H =>
 e' [(2, fr 2), (4, fr 4), (5, fr 5), (9, fr 9), (10, fr 10), (14, fr 14), (16, fr 16), (17, fr 17), (18, fr 18), (97, v97)] H⟩⟩⟩⟩⟩⟩⟩⟩⟩⟩⟩⟩⟩)
@[simp] def r12 (fr : AFr) (H : Hp) : ARes :=
 areg (q' (fa' 1 (fr 14)) H ⟨fun v98 H =>
 q' (ld' v98 H) H ⟨fun v99 H =>
 q' (fa' 0 (fr 2)) H ⟨fun v100 H =>
 q' (z_aa (.arr 8 1) v100 v99) H ⟨fun v101 H =>
 q' (ld' v101 H) H ⟨fun v102 H =>
 q' (fa' 2 (fr 16)) H ⟨fun v103 H =>
 w' (z_ac (some 1) v103 v102 H) ⟨fun _ H =>
 e' [(2, fr 2), (4, fr 4), (5, fr 5), (9, fr 9), (10, fr 10), (14, fr 14), (16, fr 16), (17, fr 17), (18, fr 18)] H⟩⟩⟩⟩⟩⟩⟩)
@[simp] def r13 (fr : AFr) (H : Hp) : ARes :=
 areg (q' (bn' .geq (fr 17) (.int .i64 4)) H ⟨fun v105 H =>
 G' v105 true ⟨some (fr 17)⟩ H ⟨fun v107 H =>
 G' v105 true ⟨bn' .leq v107 (.int .i64 6)⟩ H ⟨fun v108 H =>
 q' (apick v105 v108 (.bool false)) H ⟨fun v109 H =>
 e' [(2, fr 2), (4, fr 4), (5, fr 5), (9, fr 9), (10, fr 10), (14, fr 14), (16, fr 16), (17, fr 17), (18, fr 18), (109, v109)] H⟩⟩⟩⟩)
@[simp] def r14 (fr : AFr) (H : Hp) : ARes :=
 areg (q' (fa' 3 (fr 14)) H ⟨fun v110 H =>
 q' (ld' v110 H) H ⟨fun v111 H =>
 q' (fa' 0 (fr 2)) H ⟨fun v112 H =>
 q' (z_aa (.arr 8 1) v112 v111) H ⟨fun v113 H =>
 q' (ld' v113 H) H ⟨fun v114 H =>
 q' (fa' 2 (fr 16)) H ⟨fun v115 H =>
 w' (z_ac (some 1) v115 v114 H) ⟨fun _ H =>
 e' [(2, fr 2), (4, fr 4), (5, fr 5), (9, fr 9), (10, fr 10), (14, fr 14), (16, fr 16), (17, fr 17), (18, fr 18)] H⟩⟩⟩⟩⟩⟩⟩)
@[simp] def r15 (fr : AFr) (H : Hp) : ARes :=
 areg (q' (bn' .geq (fr 17) (.int .i64 7)) H ⟨fun v117 H =>
 G' v117 true ⟨some (fr 17)⟩ H ⟨fun v119 H =>
 G' v117 true ⟨bn' .leq v119 (.int .i64 10)⟩ H ⟨fun v120 H =>
 q' (apick v117 v120 (.bool false)) H ⟨fun v121 H =>
 G' v121 false ⟨some (fr 17)⟩ H ⟨fun v123 H =>
 G' v121 false ⟨bn' .eql v123 (.int .i64 12)⟩ H ⟨fun v124 H =>
 q' (apick v121 (.bool true) v124) H ⟨fun v125 H =>
 G' v125 false ⟨some (fr 17)⟩ H ⟨fun v127 H =>
 G' v125 false ⟨bn' .eql v127 (.int .i64 14)⟩ H ⟨fun v128 H =>
 q' (apick v125 (.bool true) v128) H ⟨fun v129 H =>
 e' [(2, fr 2), (4, fr 4), (5, fr 5), (9, fr 9), (10, fr 10), (14, fr 14), (16, fr 16), (17, fr 17), (18, fr 18), (129, v129)] H⟩⟩⟩⟩⟩⟩⟩⟩⟩⟩)
@[simp] def r16 (fr : AFr) (H : Hp) : ARes :=
 areg (q' (fa' 2 (fr 14)) H ⟨fun v130 H =>
 q' (ld' v130 H) H ⟨fun v131 H =>
 q' (fa' 0 (fr 2)) H ⟨fun v132 H =>
 q' (z_aa (.arr 8 1) v132 v131) H ⟨fun v133 H =>
 q' (ld' v133 H) H ⟨fun v134 H =>
 q' (fa' 2 (fr 16)) H ⟨fun v135 H =>
 w' (z_ac (some 1) v135 v134 H) ⟨fun _ H =>
 e' [(2, fr 2), (4, fr 4), (5, fr 5), (9, fr 9), (10, fr 10), (14, fr 14), (16, fr 16), (17, fr 17), (18, fr 18)] H⟩⟩⟩⟩⟩⟩⟩)
@[simp] def r17 (fr : AFr) (H : Hp) : ARes :=
 areg (q' (bn' .eql (fr 17) (.int .i64 7)) H ⟨fun v137 H =>
 G' v137 false ⟨some (fr 17)⟩ H ⟨fun v139 H =>
 G' v137 false ⟨bn' .eql v139 (.int .i64 8)⟩ H ⟨fun v140 H =>
 q' (apick v137 (.bool true) v140) H ⟨fun v141 H =>
 G' v141 false ⟨some (fr 17)⟩ H ⟨fun v143 H =>
 G' v141 false ⟨bn' .eql v143 (.int .i64 11)⟩ H ⟨fun v144 H =>
 q' (apick v141 (.bool true) v144) H ⟨fun v145 H =>
 G' v145 false ⟨some (fr 17)⟩ H ⟨fun v147 H =>
 G' v145 false ⟨bn' .eql v147 (.int .i64 14)⟩ H ⟨fun v148 H =>
 q' (apick v145 (.bool true) v148) H ⟨fun v149 H =>
 e' [(2, fr 2), (4, fr 4), (5, fr 5), (9, fr 9), (10, fr 10), (14, fr 14), (16, fr 16), (17, fr 17), (18, fr 18), (149, v149)] H⟩⟩⟩⟩⟩⟩⟩⟩⟩⟩)
@[simp] def r18 (fr : AFr) (H : Hp) : ARes :=
 areg (q' (fa' 3 (fr 14)) H ⟨fun v150 H =>
 q' (ld' v150 H) H ⟨fun v151 H =>
 q' (fa' 0 (fr 2)) H ⟨fun v152 H =>
 q' (z_aa (.arr 8 1) v152 v151) H ⟨fun v153 H =>
 q' (ld' v153 H) H ⟨fun v154 H =>
 q' (fa' 3 (fr 16)) H ⟨fun v155 H =>
 w' (z_ac (some 1) v155 v154 H) ⟨fun _ H =>
 e' [(2, fr 2), (4, fr 4), (5, fr 5), (9, fr 9), (10, fr 10), (14, fr 14), (16, fr 16), (17, fr 17), (18, fr 18)] H⟩⟩⟩⟩⟩⟩⟩)
@[simp] def r19 (fr : AFr) (H : Hp) : ARes :=
 areg (q' (bn' .eql (fr 17) (.int .i64 12)) H ⟨fun v157 H =>
 e' [(2, fr 2), (4, fr 4), (5, fr 5), (9, fr 9), (10, fr 10), (14, fr 14), (16, fr 16), (17, fr 17), (18, fr 18), (157, v157)] H⟩)
@[simp] def r20 (fr : AFr) (H : Hp) : ARes :=
 areg (q' (bn' .mul (W32 4#32) (fr 18)) H ⟨fun v159 H =>
 q' (fa' 3 (fr 16)) H ⟨fun v160 H =>
 w' (z_ac (some 1) v160 v159 H) ⟨fun _ H =>
 e' [(2, fr 2), (4, fr 4), (5, fr 5), (9, fr 9), (10, fr 10), (14, fr 14), (16, fr 16), (17, fr 17), (18, fr 18)] H⟩⟩⟩)
@[simp] def r21 (fr : AFr) (H : Hp) : ARes :=
 areg (q' (bn' .geq (fr 17) (.int .i64 12)) H ⟨fun v162 H =>
 G' v162 true ⟨some (fr 17)⟩ H ⟨fun v164 H =>
 G' v162 true ⟨bn' .leq v164 (.int .i64 16)⟩ H ⟨fun v165 H =>
 q' (apick v162 v165 (.bool false)) H ⟨fun v166 H =>
 q' (fa' 8 (fr 16)) H ⟨fun v167 H =>
 w' (z_ac (some 1) v167 v166 H) ⟨fun _ H =>
 e' [(2, fr 2), (4, fr 4), (5, fr 5), (9, fr 9), (10, fr 10), (14, fr 14), (16, fr 16), (17, fr 17), (18, fr 18)] H⟩⟩⟩⟩⟩⟩)
@[simp] def r22 (fr : AFr) (H : Hp) : ARes :=
 areg (q' (bn' .eql (fr 17) (.int .i64 12)) H ⟨fun v169 H =>
 G' v169 false ⟨some (fr 17)⟩ H ⟨fun v171 H =>
 G' v169 false ⟨bn' .eql v171 (.int .i64 13)⟩ H ⟨fun v172 H =>
 q' (apick v169 (.bool true) v172) H ⟨fun v173 H =>
 e' [(2, fr 2), (4, fr 4), (5, fr 5), (9, fr 9), (10, fr 10), (14, fr 14), (16, fr 16), (17, fr 17), (18, fr 18), (173, v173)] H⟩⟩⟩⟩)
@[simp] def r23 (fr : AFr) (H : Hp) : ARes :=
 areg (q' (fa' 2 (fr 14)) H ⟨fun v174 H =>
 q' (ld' v174 H) H ⟨fun v175 H =>
 q' (fa' 0 (fr 2)) H ⟨fun v176 H =>
 q' (z_aa (.arr 8 1) v176 v175) H ⟨fun v177 H =>
 q' (ld' v177 H) H ⟨fun v178 H =>
 q' (bn' .mul (W32 4#32) (fr 18)) H ⟨fun v180 H =>
 q' (bn' .add v178 v180) H ⟨fun v181 H =>
 q' (fa' 7 (fr 16)) H ⟨fun v182 H =>
 w' (z_ac (some 1) v182 v181 H) ⟨fun _ H =>
 e' [(2, fr 2), (4, fr 4), (5, fr 5), (9, fr 9), (10, fr 10), (14, fr 14), (16, fr 16), (17, fr 17), (18, fr 18)] H⟩⟩⟩⟩⟩⟩⟩⟩⟩)
@[simp] def r24 (fr : AFr) (H : Hp) : ARes :=
 areg (q' (bn' .eql (fr 17) (.int .i64 14)) H ⟨fun v184 H =>
 G' v184 false ⟨some (fr 17)⟩ H ⟨fun v186 H =>
 G' v184 false ⟨bn' .eql v186 (.int .i64 15)⟩ H ⟨fun v187 H =>
 q' (apick v184 (.bool true) v187) H ⟨fun v188 H =>
 e' [(2, fr 2), (4, fr 4), (5, fr 5), (9, fr 9), (10, fr 10), (14, fr 14), (16, fr 16), (17, fr 17), (18, fr 18), (188, v188)] H⟩⟩⟩⟩)
@[simp] def r25 (fr : AFr) (H : Hp) : ARes :=
 areg (q' (fa' 2 (fr 14)) H ⟨fun v189 H1 =>
 q' (ld' v189 H1) H1 ⟨fun v190 H2 =>
 q' (fa' 0 (fr 2)) H2 ⟨fun v191 H3 =>
 q' (z_aa (.arr 8 1) v191 v190) H3 ⟨fun v192 H4 =>
 q' (ld' v192 H4) H4 ⟨fun v193 H5 =>
 q' (fa' 3 (fr 14)) H5 ⟨fun v194 H6 =>
 q' (ld' v194 H6) H6 ⟨fun v195 H7 =>
 q' (fa' 0 (fr 2)) H7 ⟨fun v196 H8 =>
 q' (z_aa (.arr 8 1) v196 v195) H8 ⟨fun v197 H9 =>
 q' (ld' v197 H9) H9 ⟨fun v198 H10 =>
 q' (bn' .add v193 v198) H10 ⟨fun v199 H11 =>
 q' (fa' 7 (fr 16)) H11 ⟨fun v200 H12 =>
 w' (z_ac (some 1) v200 v199 H12) ⟨fun _ H13 =>
 e' [(2, fr 2), (4, fr 4), (5, fr 5), (9, fr 9), (10, fr 10), (14, fr 14), (16, fr 16), (17, fr 17), (18, fr 18)] H13⟩⟩⟩⟩⟩⟩⟩⟩⟩⟩⟩⟩⟩)
@[simp] def r26 (fr : AFr) (H : Hp) : ARes :=
 areg (q' (bn' .eql (fr 17) (.int .i64 16)) H ⟨fun v202 H =>
 e' [(2, fr 2), (4, fr 4), (5, fr 5), (9, fr 9), (10, fr 10), (14, fr 14), (16, fr 16), (17, fr 17), (18, fr 18), (202, v202)] H⟩)
@[simp] def r27 (fr : AFr) (H : Hp) : ARes :=
 areg (q' (fa' 8 (fr 2)) H ⟨fun v203 H =>
 q' (ld' v203 H) H ⟨fun v204 H =>
 q' (bn' .add v204 (W32 4#32)) H ⟨fun v205 H =>
 q' (bn' .quo v205 (W32 4#32)) H ⟨fun v206 H =>
 q' (bn' .mul v206 (W32 4#32)) H ⟨fun v207 H =>
 q' (bn' .mul (W32 4#32) (fr 18)) H ⟨fun v209 H =>
 q' (bn' .add v207 v209) H ⟨fun v210 H =>
 q' (fa' 7 (fr 16)) H ⟨fun v211 H =>
 w' (z_ac (some 1) v211 v210 H) ⟨fun _ H =>
 e' [(2, fr 2), (4, fr 4), (5, fr 5), (9, fr 9), (10, fr 10), (14, fr 14), (16, fr 16), (17, fr 17)] H⟩⟩⟩⟩⟩⟩⟩⟩⟩)
@[simp] def r28 (fr : AFr) (H : Hp) : ARes :=
 areg (q' (bn' .eql (fr 17) (.int .i64 12)) H ⟨fun v213 H =>
 G' v213 false ⟨some (fr 17)⟩ H ⟨fun v215 H =>
 G' v213 false ⟨bn' .eql v215 (.int .i64 14)⟩ H ⟨fun v216 H =>
 q' (apick v213 (.bool true) v216) H ⟨fun v217 H =>
 G' v217 false ⟨some (fr 17)⟩ H ⟨fun v219 H =>
 G' v217 false ⟨bn' .eql v219 (.int .i64 16)⟩ H ⟨fun v220 H =>
 q' (apick v217 (.bool true) v220) H ⟨fun v221 H =>
 G' v221 true ⟨fa' 7 (fr 16)⟩ H ⟨fun v223 H =>
 G' v221 true ⟨ld' v223 H⟩ H ⟨fun v224 H =>
 G' v221 true ⟨bn' .eql v224 (W32 1073741824#32)⟩ H ⟨fun v225 H =>
 q' (apick v221 v225 (.bool false)) H ⟨fun v226 H =>
 q' (fa' 9 (fr 16)) H ⟨fun v227 H =>
 w' (z_ac (some 1) v227 v226 H) ⟨fun _ H =>
 e' [(2, fr 2), (4, fr 4), (5, fr 5), (9, fr 9), (10, fr 10), (14, fr 14), (16, fr 16), (17, fr 17)] H⟩⟩⟩⟩⟩⟩⟩⟩⟩⟩⟩⟩⟩)
@[simp] def r29 (s3 : SpecP) (fr : AFr) (H : Hp) : ARes :=
 areg (q' (Ld' 5 (fr 14) H) H ⟨fun v229 H =>
 o' (callP false s3 [[none, none, none, none, none]] [v229] H) ⟨fun v230 H =>
 q' (aextract v230 0) H ⟨fun v231 H =>
 q' (aextract v230 1) H ⟨fun v232 H =>
 e' [(2, fr 2), (4, fr 4), (5, fr 5), (9, fr 9), (10, fr 10), (14, fr 14), (16, fr 16), (17, fr 17), (19, v231), (20, v232)] H⟩⟩⟩⟩)
@[simp] def r30 (fr : AFr) (H : Hp) : ARes :=
 areg (e' [(2, fr 2), (4, fr 4), (5, fr 5), (9, fr 9), (10, fr 10), (14, fr 14), (16, fr 16), (17, fr 17), (19, fr 19), (233, (fr 20))] H)
@[simp] def r31 (fr : AFr) (H : Hp) : ARes :=
 areg (q' (some (fr 19)) H ⟨fun v234 H1 =>
 q' (fa' 0 (fr 9)) H1 ⟨fun v235 H2 =>
 q' (z_aa (.arr 8 1) v235 v234) H2 ⟨fun v236 H3 =>
 q' (ld' v236 H3) H3 ⟨fun v237 H4 =>
 q' (some (fr 19)) H4 ⟨fun v238 H5 =>
 q' (fa' 0 (fr 2)) H5 ⟨fun v239 H6 =>
 q' (z_aa (.arr 8 1) v239 v238) H6 ⟨fun v240 H7 =>
 q' (ld' v240 H7) H7 ⟨fun v241 H8 =>
 q' (fa' 4 (fr 16)) H8 ⟨fun v242 H9 =>
 w' (z_ac (some 1) v242 v237 H9) ⟨fun _ H10 =>
 q' (fa' 5 (fr 16)) H10 ⟨fun v243 H11 =>
 w' (z_ac (some 1) v243 v241 H11) ⟨fun _ H12 =>
 z_bw [z_am (some none) v240 H9 = z_am (some none) v240 H10] (e' [(4, fr 4), (5, fr 5), (9, fr 9), (10, fr 10), (14, fr 14), (16, fr 16), (17, fr 17)] H12)⟩⟩⟩⟩⟩⟩⟩⟩⟩⟩⟩⟩)
@[simp] def r32 (fr : AFr) (H : Hp) : ARes :=
 areg (q' (bn' .eql (fr 17) (.int .i64 13)) H ⟨fun v245 H =>
 G' v245 false ⟨some (fr 17)⟩ H ⟨fun v247 H =>
 G' v245 false ⟨bn' .eql v247 (.int .i64 15)⟩ H ⟨fun v248 H =>
 q' (apick v245 (.bool true) v248) H ⟨fun v249 H =>
 e' [(4, fr 4), (5, fr 5), (9, fr 9), (10, fr 10), (14, fr 14), (16, fr 16), (17, fr 17), (249, v249)] H⟩⟩⟩⟩)
@[simp] def r33 (fr : AFr) (H : Hp) : ARes :=
 areg (q' (fa' 2 (fr 16)) H ⟨fun v250 H =>
 q' (ld' v250 H) H ⟨fun v251 H =>
 q' (fa' 4 (fr 16)) H ⟨fun v252 H =>
 w' (z_ac (some 1) v252 v251 H) ⟨fun _ H =>
 e' [(4, fr 4), (5, fr 5), (9, fr 9), (10, fr 10), (14, fr 14), (16, fr 16), (17, fr 17)] H⟩⟩⟩⟩)
@[simp] def r34 (fr : AFr) (H : Hp) : ARes :=
 areg (q' (bn' .eql (fr 17) (.int .i64 1)) H ⟨fun v254 H =>
 G' v254 false ⟨some (fr 17)⟩ H ⟨fun v256 H =>
 G' v254 false ⟨bn' .eql v256 (.int .i64 11)⟩ H ⟨fun v257 H =>
 G' v254 false ⟨some v257⟩ H ⟨fun v258 H =>
 G' v258 true ⟨fa' 4 (fr 14)⟩ H ⟨fun v259 H =>
 G' v258 true ⟨ld' v259 H⟩ H ⟨fun v260 H =>
 G' v258 true ⟨bn' .eql v260 (.int .i64 10)⟩ H ⟨fun v261 H =>
 G' v254 false ⟨apick v258 v261 (.bool false)⟩ H ⟨fun v262 H =>
 q' (apick v254 (.bool true) v262) H ⟨fun v263 H =>
 e' [(4, fr 4), (5, fr 5), (9, fr 9), (10, fr 10), (14, fr 14), (16, fr 16), (17, fr 17), (263, v263)] H⟩⟩⟩⟩⟩⟩⟩⟩⟩)
@[simp] def r35 (fr : AFr) (H : Hp) : ARes :=
 areg (q' (fa' 2 (fr 16)) H ⟨fun v264 H =>
 q' (ld' v264 H) H ⟨fun v265 H =>
 q' (fa' 3 (fr 16)) H ⟨fun v266 H =>
 q' (ld' v266 H) H ⟨fun v267 H =>
 q' (bn' .sub v265 v267) H ⟨fun v268 H =>
 q' (fa' 4 (fr 16)) H ⟨fun v269 H =>
 w' (z_ac (some 1) v269 v268 H) ⟨fun _ H =>
 e' [(4, fr 4), (5, fr 5), (9, fr 9), (10, fr 10), (14, fr 14), (16, fr 16), (17, fr 17)] H⟩⟩⟩⟩⟩⟩⟩)
@[simp] def r36 (fr : AFr) (H : Hp) : ARes :=
 areg (q' (bn' .eql (fr 17) (.int .i64 11)) H ⟨fun v271 H =>
 G' v271 true ⟨fa' 4 (fr 14)⟩ H ⟨fun v273 H =>
 G' v271 true ⟨ld' v273 H⟩ H ⟨fun v274 H =>
 G' v271 true ⟨bn' .eql v274 (.int .i64 8)⟩ H ⟨fun v275 H =>
 q' (apick v271 v275 (.bool false)) H ⟨fun v276 H =>
 e' [(4, fr 4), (5, fr 5), (9, fr 9), (10, fr 10), (14, fr 14), (16, fr 16), (17, fr 17), (276, v276)] H⟩⟩⟩⟩⟩)
@[simp] def r37 (fr : AFr) (H : Hp) : ARes :=
 areg (q' (fa' 2 (fr 16)) H ⟨fun v277 H =>
 q' (ld' v277 H) H ⟨fun v278 H =>
 q' (fa' 3 (fr 16)) H ⟨fun v279 H =>
 q' (ld' v279 H) H ⟨fun v280 H =>
 q' (bn' .and v278 v280) H ⟨fun v281 H =>
 q' (fa' 4 (fr 16)) H ⟨fun v282 H =>
 w' (z_ac (some 1) v282 v281 H) ⟨fun _ H =>
 e' [(4, fr 4), (5, fr 5), (9, fr 9), (10, fr 10), (14, fr 14), (16, fr 16), (17, fr 17)] H⟩⟩⟩⟩⟩⟩⟩)
@[simp] def r38 (fr : AFr) (H : Hp) : ARes :=
 areg (q' (bn' .eql (fr 17) (.int .i64 11)) H ⟨fun v284 H =>
 G' v284 true ⟨fa' 4 (fr 14)⟩ H ⟨fun v286 H =>
 G' v284 true ⟨ld' v286 H⟩ H ⟨fun v287 H =>
 G' v284 true ⟨bn' .eql v287 (.int .i64 11)⟩ H ⟨fun v288 H =>
 q' (apick v284 v288 (.bool false)) H ⟨fun v289 H =>
 e' [(4, fr 4), (5, fr 5), (9, fr 9), (10, fr 10), (16, fr 16), (289, v289)] H⟩⟩⟩⟩⟩)
@[simp] def r39 (fr : AFr) (H : Hp) : ARes :=
 areg (q' (fa' 2 (fr 16)) H ⟨fun v290 H =>
 q' (ld' v290 H) H ⟨fun v291 H =>
 q' (fa' 3 (fr 16)) H ⟨fun v292 H =>
 q' (ld' v292 H) H ⟨fun v293 H =>
 q' (bn' .add v291 v293) H ⟨fun v294 H =>
 q' (fa' 4 (fr 16)) H ⟨fun v295 H =>
 w' (z_ac (some 1) v295 v294 H) ⟨fun _ H =>
 e' [(4, fr 4), (5, fr 5), (9, fr 9), (10, fr 10), (16, fr 16)] H⟩⟩⟩⟩⟩⟩⟩)
@[simp] def r40 (fr : AFr) (H : Hp) : ARes :=
 areg (q' (Ld' 13 (fr 9) H) H ⟨fun v296 H1 =>
 q' (Ld' 10 (fr 16) H1) H1 ⟨fun v297 H2 =>
 q' (some (fr 10)) H2 ⟨fun v298 H3 =>
 w' (z_ac (some 13) (fr 4) v296 H3) ⟨fun _ H4 =>
 w' (z_ac (some 10) (fr 5) v297 H4) ⟨fun _ H5 =>
 q' (some v298) H5 ⟨fun v6 H6 =>
 q' (some (.int .i64 0)) H6 ⟨fun v7 H7 =>
 z_bw [z_am (some (some 10)) (fr 16) H3 = z_am (some (some 10)) (fr 16) H4] (e' [(4, fr 4), (5, fr 5), (6, v6), (7, v7)] H7)⟩⟩⟩⟩⟩⟩⟩)
@[simp] def body (s0 s1 : SpecM) (s2 s3 : SpecP) (fr : AFr) (H : Hp) : ARes :=
 s' (r0 fr H) ⟨fun fr H =>
 s' (r1 fr H) ⟨fun fr H =>
 s' (r2 s0 fr H) ⟨fun fr H =>
 s' (s' (r3 fr H) ⟨fun fr H =>
 c' (fr 33)
 ⟨s' (r4 fr H) ⟨fun fr H =>
 some (.ret, fr, H)⟩⟩
 ⟨some (.normal, fr, H)⟩⟩) ⟨fun fr H =>
 s' (r5 s1 fr H) ⟨fun fr H =>
 s' (r6 s2 fr H) ⟨fun fr H =>
 s' (r7 fr H) ⟨fun fr H =>
 s' (r8 fr H) ⟨fun fr H =>
 s' (s' (r9 fr H) ⟨fun fr H =>
 c' (fr 77)
 ⟨r10 fr H⟩
 ⟨some (.normal, fr, H)⟩⟩) ⟨fun fr H =>
 s' (s' (r11 fr H) ⟨fun fr H =>
 c' (fr 97)
 ⟨r12 fr H⟩
 ⟨some (.normal, fr, H)⟩⟩) ⟨fun fr H =>
 s' (s' (r13 fr H) ⟨fun fr H =>
 c' (fr 109)
 ⟨r14 fr H⟩
 ⟨some (.normal, fr, H)⟩⟩) ⟨fun fr H =>
 s' (s' (r15 fr H) ⟨fun fr H =>
 c' (fr 129)
 ⟨r16 fr H⟩
 ⟨some (.normal, fr, H)⟩⟩) ⟨fun fr H =>
 s' (s' (r17 fr H) ⟨fun fr H =>
 c' (fr 149)
 ⟨r18 fr H⟩
 ⟨some (.normal, fr, H)⟩⟩) ⟨fun fr H =>
 s' (s' (r19 fr H) ⟨fun fr H =>
 c' (fr 157)
 ⟨r20 fr H⟩
 ⟨some (.normal, fr, H)⟩⟩) ⟨fun fr H =>
 s' (r21 fr H) ⟨fun fr H =>
 s' (s' (r22 fr H) ⟨fun fr H =>
 c' (fr 173)
 ⟨r23 fr H⟩
 ⟨some (.normal, fr, H)⟩⟩) ⟨fun fr H =>
 s' (s' (r24 fr H) ⟨fun fr H =>
 c' (fr 188)
 ⟨r25 fr H⟩
 ⟨some (.normal, fr, H)⟩⟩) ⟨fun fr H =>
 s' (s' (r26 fr H) ⟨fun fr H =>
 c' (fr 202)
 ⟨r27 fr H⟩
 ⟨some (.normal, fr, H)⟩⟩) ⟨fun fr H =>
 s' (r28 fr H) ⟨fun fr H =>
 s' (s' (r29 s3 fr H) ⟨fun fr H =>
 s' (r30 fr H) ⟨fun fr H =>
 c' (fr 233)
 ⟨r31 fr H⟩
 ⟨some (.normal, fr, H)⟩⟩⟩) ⟨fun fr H =>
 s' (s' (r32 fr H) ⟨fun fr H =>
 c' (fr 249)
 ⟨r33 fr H⟩
 ⟨some (.normal, fr, H)⟩⟩) ⟨fun fr H =>
 s' (s' (r34 fr H) ⟨fun fr H =>
 c' (fr 263)
 ⟨r35 fr H⟩
 ⟨some (.normal, fr, H)⟩⟩) ⟨fun fr H =>
 s' (s' (r36 fr H) ⟨fun fr H =>
 c' (fr 276)
 ⟨r37 fr H⟩
 ⟨some (.normal, fr, H)⟩⟩) ⟨fun fr H =>
 s' (s' (r38 fr H) ⟨fun fr H =>
 c' (fr 289)
 ⟨r39 fr H⟩
 ⟨some (.normal, fr, H)⟩⟩) ⟨fun fr H =>
 s' (r40 fr H) ⟨fun fr H =>
 some (.ret, fr, H)⟩⟩⟩⟩⟩⟩⟩⟩⟩⟩⟩⟩⟩⟩⟩⟩⟩⟩⟩⟩⟩⟩⟩⟩⟩
@[simp] def res (fr : AFr) (H : Hp) : Option (List AV) := res2 (z_am (some (some 13)) (fr 4) H) (res2 (z_am (some (some 10)) (fr 5) H) (res2 (some (fr 6)) (res2 (some (fr 7)) (some []))))
end z_by
def z_by (a0 a1 : AV) (H : Hp) : Option (AV × Hp) := forget H (afinR z_by.res (z_by.body z_av.spec z_ay.spec z_az.spec z_bj.spec (args0 [a0, a1]) H))
def z_by.spec : List AV → Hp → Option (AV × Hp)
 | [a0, a1], H => z_by a0 a1 H
 | _, _ => none
namespace z_cg
def C : Tab := Tab.none
@[simp] def r0 (fr : AFr) (H : Hp) : ARes :=
 areg (o' (abox T.ty_api_Leak (fr 0) H) ⟨fun v2 H =>
 o' (abox T.ty_api_Leak (fr 1) H) ⟨fun v3 H =>
 e' [(2, v2), (3, v3)] H⟩⟩)
@[simp] def r1 (fr : AFr) (H : Hp) : ARes :=
 areg (q' (fa' 0 (fr 2)) H ⟨fun v5 H =>
 q' (ld' v5 H) H ⟨fun v6 H =>
 q' (fa' 0 (fr 3)) H ⟨fun v7 H =>
 q' (ld' v7 H) H ⟨fun v8 H =>
 q' (bn' .eql v6 v8) H ⟨fun v9 H =>
 G' v9 true ⟨fa' 1 (fr 2)⟩ H ⟨fun v11 H =>
 G' v9 true ⟨ld' v11 H⟩ H ⟨fun v12 H =>
 G' v9 true ⟨fa' 1 (fr 3)⟩ H ⟨fun v13 H =>
 G' v9 true ⟨ld' v13 H⟩ H ⟨fun v14 H =>
 G' v9 true ⟨bn' .eql v12 v14⟩ H ⟨fun v15 H =>
 q' (apick v9 v15 (.bool false)) H ⟨fun v16 H =>
 G' v16 true ⟨fa' 7 (fr 2)⟩ H ⟨fun v18 H =>
 G' v16 true ⟨ld' v18 H⟩ H ⟨fun v19 H =>
 G' v16 true ⟨fa' 7 (fr 3)⟩ H ⟨fun v20 H =>
 G' v16 true ⟨ld' v20 H⟩ H ⟨fun v21 H =>
 G' v16 true ⟨bn' .eql v19 v21⟩ H ⟨fun v22 H =>
 q' (apick v16 v22 (.bool false)) H ⟨fun v23 H =>
 G' v23 true ⟨fa' 8 (fr 2)⟩ H ⟨fun v25 H =>
 G' v23 true ⟨ld' v25 H⟩ H ⟨fun v26 H =>
 G' v23 true ⟨fa' 8 (fr 3)⟩ H ⟨fun v27 H =>
 G' v23 true ⟨ld' v27 H⟩ H ⟨fun v28 H =>
 G' v23 true ⟨abinR .b .eql v26 v28⟩ H ⟨fun v29 H =>
 q' (apick v23 v29 (.bool false)) H ⟨fun v30 H =>
 G' v30 true ⟨fa' 9 (fr 2)⟩ H ⟨fun v32 H =>
 G' v30 true ⟨ld' v32 H⟩ H ⟨fun v33 H =>
 G' v30 true ⟨fa' 9 (fr 3)⟩ H ⟨fun v34 H =>
 G' v30 true ⟨ld' v34 H⟩ H ⟨fun v35 H =>
 G' v30 true ⟨abinR .b .eql v33 v35⟩ H ⟨fun v36 H =>
 q' (apick v30 v36 (.bool false)) H ⟨fun v37 H =>
 e' [(4, v37)] H⟩⟩⟩⟩⟩⟩⟩⟩⟩⟩⟩⟩⟩⟩⟩⟩⟩⟩⟩⟩⟩⟩⟩⟩⟩⟩⟩⟩⟩)
@[simp] def body (fr : AFr) (H : Hp) : ARes :=
 s' (r0 fr H) ⟨fun fr H =>
 s' (r1 fr H) ⟨fun fr H =>
 some (.ret, fr, H)⟩⟩
@[simp] def res (fr : AFr) (H : Hp) : Option (List AV) := res2 (some (fr 4)) (some [])
end z_cg
def z_cg (a0 a1 : AV) : Option AV := z_ap (some [[none]]) (afinR z_cg.res (z_cg.body (args0 [a0, a1]) Hp.empty))
def z_cg.spec : List AV → Option AV
 | [a0, a1] => z_cg a0 a1
 | _ => none
end
end Go.Abs
end
