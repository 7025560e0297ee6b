/-
  The functions, as they are over abstract values. Printed by gen.py.
-/
import Derived.Test.YteohnepdbjmghaaLoF
set_option linter.unusedVariables false
namespace Go.Abs
noncomputable section
namespace core_holds
def C : Tab := Tab.none
@[simp] def r0 (fr : AFr) (H : AHeap) : ARes :=
 areg (o' (abox T.ty_api_State (fr 1) H) ⟨fun v3 H =>
 e' [(0, fr 0), (3, v3)] H⟩)
@[simp] def r1 (fr : AFr) (H : AHeap) : ARes :=
 areg (e' [(0, fr 0), (3, fr 3), (5, (.bool false))] H)
@[simp] def r2 (fr : AFr) (H : AHeap) : ARes :=
 areg (q' (bn' .quo (fr 0) (.int .i64 2)) H ⟨fun v7 H =>
 e' [(0, fr 0), (3, fr 3), (5, fr 5), (7, v7)] H⟩)
@[simp] def r3 (fr : AFr) (H : AHeap) : ARes :=
 areg (q' (bn' .eql (fr 7) (.int .i64 0)) H ⟨fun v9 H =>
 e' [(0, fr 0), (3, fr 3), (5, fr 5), (7, fr 7), (8, v9)] H⟩)
@[simp] def r4 (fr : AFr) (H : AHeap) : ARes :=
 areg (q' (fa' 10 (fr 3)) H ⟨fun v10 H =>
 q' (ld' v10 H) H ⟨fun v11 H =>
 e' [(0, fr 0), (5, v11)] H⟩⟩)
@[simp] def r5 (fr : AFr) (H : AHeap) : ARes :=
 areg (q' (bn' .eql (fr 7) (.int .i64 1)) H ⟨fun v13 H =>
 e' [(0, fr 0), (3, fr 3), (5, fr 5), (7, fr 7), (12, v13)] H⟩)
@[simp] def r6 (fr : AFr) (H : AHeap) : ARes :=
 areg (q' (fa' 11 (fr 3)) H ⟨fun v14 H =>
 q' (ld' v14 H) H ⟨fun v15 H =>
 e' [(0, fr 0), (5, v15)] H⟩⟩)
@[simp] def r7 (fr : AFr) (H : AHeap) : ARes :=
 areg (q' (bn' .eql (fr 7) (.int .i64 2)) H ⟨fun v17 H =>
 e' [(0, fr 0), (3, fr 3), (5, fr 5), (7, fr 7), (16, v17)] H⟩)
@[simp] def r8 (fr : AFr) (H : AHeap) : ARes :=
 areg (q' (fa' 9 (fr 3)) H ⟨fun v18 H =>
 q' (ld' v18 H) H ⟨fun v19 H =>
 e' [(0, fr 0), (5, v19)] H⟩⟩)
@[simp] def r9 (fr : AFr) (H : AHeap) : ARes :=
 areg (q' (bn' .eql (fr 7) (.int .i64 3)) H ⟨fun v21 H =>
 e' [(0, fr 0), (3, fr 3), (5, fr 5), (7, fr 7), (20, v21)] H⟩)
@[simp] def r10 (fr : AFr) (H : AHeap) : ARes :=
 areg (q' (fa' 12 (fr 3)) H ⟨fun v22 H =>
 q' (ld' v22 H) H ⟨fun v23 H =>
 e' [(0, fr 0), (5, v23)] H⟩⟩)
@[simp] def r11 (fr : AFr) (H : AHeap) : ARes :=
 areg (q' (bn' .eql (fr 7) (.int .i64 4)) H ⟨fun v25 H =>
 e' [(0, fr 0), (3, fr 3), (5, fr 5), (7, fr 7), (24, v25)] H⟩)
@[simp] def r12 (fr : AFr) (H : AHeap) : ARes :=
 areg (q' (fa' 11 (fr 3)) H ⟨fun v26 H =>
 q' (ld' v26 H) H ⟨fun v27 H =>
 G' v27 true ⟨fa' 10 (fr 3)⟩ H ⟨fun v29 H =>
 G' v27 true ⟨ld' v29 H⟩ H ⟨fun v30 H =>
 G' v27 true ⟨aun .not v30⟩ H ⟨fun v31 H =>
 q' (apick v27 v31 (.bool false)) H ⟨fun v32 H =>
 e' [(0, fr 0), (5, v32)] H⟩⟩⟩⟩⟩⟩)
@[simp] def r13 (fr : AFr) (H : AHeap) : ARes :=
 areg (q' (bn' .eql (fr 7) (.int .i64 5)) H ⟨fun v34 H =>
 e' [(0, fr 0), (3, fr 3), (5, fr 5), (7, fr 7), (33, v34)] H⟩)
@[simp] def r14 (fr : AFr) (H : AHeap) : ARes :=
 areg (q' (fa' 9 (fr 3)) H ⟨fun v35 H =>
 q' (ld' v35 H) H ⟨fun v36 H =>
 q' (fa' 12 (fr 3)) H ⟨fun v37 H =>
 q' (ld' v37 H) H ⟨fun v38 H =>
 q' (abinR .b .eql v36 v38) H ⟨fun v39 H =>
 e' [(0, fr 0), (5, v39)] H⟩⟩⟩⟩⟩)
@[simp] def r15 (fr : AFr) (H : AHeap) : ARes :=
 areg (q' (bn' .eql (fr 7) (.int .i64 6)) H ⟨fun v41 H =>
 e' [(0, fr 0), (3, fr 3), (5, fr 5), (40, v41)] H⟩)
@[simp] def r16 (fr : AFr) (H : AHeap) : ARes :=
 areg (q' (fa' 10 (fr 3)) H ⟨fun v42 H =>
 q' (ld' v42 H) H ⟨fun v43 H =>
 q' (aun .not v43) H ⟨fun v44 H =>
 G' v44 true ⟨fa' 9 (fr 3)⟩ H ⟨fun v46 H =>
 G' v44 true ⟨ld' v46 H⟩ H ⟨fun v47 H =>
 G' v44 true ⟨fa' 12 (fr 3)⟩ H ⟨fun v48 H =>
 G' v44 true ⟨ld' v48 H⟩ H ⟨fun v49 H =>
 G' v44 true ⟨abinR .b .eql v47 v49⟩ H ⟨fun v50 H =>
 q' (apick v44 v50 (.bool false)) H ⟨fun v51 H =>
 e' [(0, fr 0), (5, v51)] H⟩⟩⟩⟩⟩⟩⟩⟩⟩)
@[simp] def r17 (fr : AFr) (H : AHeap) : ARes :=
 areg (q' (bn' .rem (fr 0) (.int .i64 2)) H ⟨fun v54 H =>
 q' (bn' .eql v54 (.int .i64 0)) H ⟨fun v55 H =>
 q' (abinR .b .eql (fr 5) v55) H ⟨fun v56 H =>
 e' [(4, v56)] H⟩⟩⟩)
@[simp] def body (fr : AFr) (H : AHeap) : ARes :=
  s' (r0 fr H) ⟨fun fr H =>
 s' (r1 fr H) ⟨fun fr H =>
 s' (s' (r2 fr H) ⟨fun fr H =>
  aexit 0 (s' (r3 fr H) ⟨fun fr H =>
 c' (fr 8)
 ⟨r4 fr H⟩
 ⟨s' (r5 fr H) ⟨fun fr H =>
 c' (fr 12)
 ⟨r6 fr H⟩
 ⟨s' (r7 fr H) ⟨fun fr H =>
 c' (fr 16)
 ⟨r8 fr H⟩
 ⟨s' (r9 fr H) ⟨fun fr H =>
 c' (fr 20)
 ⟨r10 fr H⟩
 ⟨s' (r11 fr H) ⟨fun fr H =>
 c' (fr 24)
 ⟨r12 fr H⟩
 ⟨s' (r13 fr H) ⟨fun fr H =>
 c' (fr 33)
 ⟨r14 fr H⟩
 ⟨s' (r15 fr H) ⟨fun fr H =>
 c' (fr 40)
 ⟨r16 fr H⟩
 ⟨some (.normal, fr, H)⟩⟩⟩⟩⟩⟩⟩⟩⟩⟩⟩⟩⟩⟩)⟩) ⟨fun fr H =>
 s' (r17 fr H) ⟨fun fr H =>
 some (.ret, fr, H)⟩⟩⟩⟩
@[simp] def res (fr : AFr) (H : AHeap) : Option (List AV) := res2 (some (fr 4)) (some [])
end core_holds
def core_holds (a0 a1 : AV) : Option AV := closeUpR (some [[none]]) (afinR core_holds.res (core_holds.body (args0 [a0, a1]) AHeap.empty))
def core_holds.spec : List AV → Option AV
  | [a0, a1] => core_holds a0 a1
  | _ => none
namespace core_addr
def C : Tab := Tab.none
@[simp] def r0 (fr : AFr) (H : AHeap) : ARes :=
 areg (o' (abox T.ty_api_State (fr 0) H) ⟨fun v2 H =>
 o' (abox T.ty_api_Ins (fr 1) H) ⟨fun v3 H =>
 e' [(2, v2), (3, v3)] H⟩⟩)
@[simp] def r1 (fr : AFr) (H : AHeap) : ARes :=
 areg (q' (fa' 0 (fr 3)) H ⟨fun v5 H =>
 q' (ld' v5 H) H ⟨fun v6 H =>
 e' [(2, fr 2), (3, fr 3), (6, v6)] H⟩⟩)
@[simp] def r2 (fr : AFr) (H : AHeap) : ARes :=
 areg (q' (bn' .eql (fr 6) (.int .i64 14)) H ⟨fun v8 H =>
 e' [(2, fr 2), (3, fr 3), (6, fr 6), (7, v8)] H⟩)
@[simp] def r3 (fr : AFr) (H : AHeap) : ARes :=
 areg (q' (bn' .eql (fr 6) (.int .i64 15)) H ⟨fun v9 H =>
 e' [(2, fr 2), (3, fr 3), (6, fr 6), (7, v9)] H⟩)
@[simp] def r4 (fr : AFr) (H : AHeap) : ARes :=
 areg (q' (fa' 2 (fr 3)) H ⟨fun v10 H1 =>
 q' (ld' v10 H1) H1 ⟨fun v11 H2 =>
 q' (fa' 0 (fr 2)) H2 ⟨fun v12 H3 =>
 q' (aindexAddrR (.arr 8 1) v12 v11) H3 ⟨fun v13 H4 =>
 q' (ld' v13 H4) H4 ⟨fun v14 H5 =>
 q' (fa' 3 (fr 3)) H5 ⟨fun v15 H6 =>
 q' (ld' v15 H6) H6 ⟨fun v16 H7 =>
 q' (fa' 0 (fr 2)) H7 ⟨fun v17 H8 =>
 q' (aindexAddrR (.arr 8 1) v17 v16) H8 ⟨fun v18 H9 =>
 q' (ld' v18 H9) H9 ⟨fun v19 H10 =>
 q' (bn' .add v14 v19) H10 ⟨fun v20 H11 =>
 q' (some v20) H11 ⟨fun v4 H12 =>
 e' [(4, v4)] H12⟩⟩⟩⟩⟩⟩⟩⟩⟩⟩⟩⟩)
@[simp] def r5 (fr : AFr) (H : AHeap) : ARes :=
 areg (q' (bn' .eql (fr 6) (.int .i64 16)) H ⟨fun v22 H =>
 e' [(2, fr 2), (3, fr 3), (21, v22)] H⟩)
@[simp] def r6 (fr : AFr) (H : AHeap) : ARes :=
 areg (q' (fa' 8 (fr 2)) H ⟨fun v23 H =>
 q' (ld' v23 H) H ⟨fun v24 H =>
 q' (bn' .add v24 (W32 4#32)) H ⟨fun v25 H =>
 q' (bn' .andNot v25 (W32 3#32)) H ⟨fun v26 H =>
 q' (fa' 4 (fr 3)) H ⟨fun v27 H =>
 q' (ld' v27 H) H ⟨fun v28 H =>
 q' (aconvR (some .u32) v28) H ⟨fun v29 H =>
 q' (bn' .mul (W32 4#32) v29) H ⟨fun v30 H =>
 q' (bn' .add v26 v30) H ⟨fun v31 H =>
 e' [(4, v31)] H⟩⟩⟩⟩⟩⟩⟩⟩⟩)
@[simp] def r7 (fr : AFr) (H : AHeap) : ARes :=
 areg (q' (fa' 2 (fr 3)) H ⟨fun v32 H1 =>
 q' (ld' v32 H1) H1 ⟨fun v33 H2 =>
 q' (fa' 0 (fr 2)) H2 ⟨fun v34 H3 =>
 q' (aindexAddrR (.arr 8 1) v34 v33) H3 ⟨fun v35 H4 =>
 q' (ld' v35 H4) H4 ⟨fun v36 H5 =>
 q' (fa' 4 (fr 3)) H5 ⟨fun v37 H6 =>
 q' (ld' v37 H6) H6 ⟨fun v38 H7 =>
 q' (aconvR (some .u32) v38) H7 ⟨fun v39 H8 =>
 q' (bn' .mul (W32 4#32) v39) H8 ⟨fun v40 H9 =>
 q' (bn' .add v36 v40) H9 ⟨fun v41 H10 =>
 q' (some v41) H10 ⟨fun v4 H11 =>
 e' [(4, v4)] H11⟩⟩⟩⟩⟩⟩⟩⟩⟩⟩⟩)
@[simp] def body (fr : AFr) (H : AHeap) : ARes :=
  s' (r0 fr H) ⟨fun fr H =>
 s' (s' (r1 fr H) ⟨fun fr H =>
  aexit 0 (s' (s' (r2 fr H) ⟨fun fr H =>
 c' (fr 7)
 ⟨some (.normal, fr, H)⟩
 ⟨r3 fr H⟩⟩) ⟨fun fr H =>
 c' (fr 7)
 ⟨s' (r4 fr H) ⟨fun fr H =>
 some (.ret, fr, H)⟩⟩
 ⟨s' (r5 fr H) ⟨fun fr H =>
 c' (fr 21)
 ⟨s' (r6 fr H) ⟨fun fr H =>
 some (.ret, fr, H)⟩⟩
 ⟨some (.normal, fr, H)⟩⟩⟩⟩)⟩) ⟨fun fr H =>
 s' (r7 fr H) ⟨fun fr H =>
 some (.ret, fr, H)⟩⟩⟩
@[simp] def res (fr : AFr) (H : AHeap) : Option (List AV) := res2 (some (fr 4)) (some [])
end core_addr
def core_addr (a0 a1 : AV) : Option AV := closeUpR (some [[none]]) (afinR core_addr.res (core_addr.body (args0 [a0, a1]) AHeap.empty))
def core_addr.spec : List AV → Option AV
  | [a0, a1] => core_addr a0 a1
  | _ => none
namespace core_moves
def C (s0 : SpecP) (s1 s2 : SpecM) : Tab := (((Tab.none.add 126 (.pure false s0)).add 125 (.ref [false, false, false] s1)).add 127 (.ref [false, false] s2))
@[simp] def r0 (fr : AFr) (H : AHeap) : ARes :=
 areg (o' (abox T.ty_api_State (fr 0) H) ⟨fun v3 H =>
 o' (abox T.ty_api_Ins (fr 1) H) ⟨fun v4 H =>
 o' (aallocR T.ty_api_State (some (.agg [(W32 0#32), (W32 0#32), (W32 0#32), (W32 0#32), (W32 0#32), (W32 0#32), (W32 0#32), (W32 0#32), (W32 0#32), (.bool false), (.bool false), (.bool false), (.bool false)])) H) ⟨fun v6 H =>
 e' [(2, fr 2), (3, v3), (4, v4), (6, v6)] H⟩⟩⟩)
@[simp] def r1 (fr : AFr) (H : AHeap) : ARes :=
 areg (q' (fa' 0 (fr 4)) H ⟨fun v10 H =>
 q' (ld' v10 H) H ⟨fun v11 H =>
 q' (bn' .eql v11 (.int .i64 13)) H ⟨fun v12 H =>
 G' v12 false ⟨fa' 0 (fr 4)⟩ H ⟨fun v14 H =>
 G' v12 false ⟨ld' v14 H⟩ H ⟨fun v15 H =>
 G' v12 false ⟨bn' .eql v15 (.int .i64 15)⟩ H ⟨fun v16 H =>
 q' (apick v12 (.bool true) v16) H ⟨fun v17 H =>
 e' [(2, fr 2), (3, fr 3), (4, fr 4), (6, fr 6), (17, v17)] H⟩⟩⟩⟩⟩⟩⟩)
@[simp] def r2 (s0 : SpecP) (s1 : SpecM) (fr : AFr) (H : AHeap) : ARes :=
 areg (q' (Ld' 13 (fr 3) H) H ⟨fun v18 H1 =>
 q' (some (fr 2)) H1 ⟨fun v19 H2 =>
 q' (Ld' 13 (fr 3) H2) H2 ⟨fun v20 H3 =>
 q' (Ld' 5 (fr 4) H3) H3 ⟨fun v21 H4 =>
 o' (callP false s0 [[none, none, none, none, none, none, none, none, none, none, none, none, none], [none, none, none, none, none]] [v20, v21] H4) ⟨fun v22 H5 =>
 q' (fa' 1 (fr 4)) H5 ⟨fun v23 H6 =>
 q' (ld' v23 H6) H6 ⟨fun v24 H7 =>
 q' (fa' 0 (fr 3)) H7 ⟨fun v25 H8 =>
 q' (aindexAddrR (.arr 8 1) v25 v24) H8 ⟨fun v26 H9 =>
 q' (ld' v26 H9) H9 ⟨fun v27 H10 =>
 o' (san H10 (callM [false, false, false] s1 [[none], [none], [none]] [v19, v22, v27] H10)) ⟨fun v28 H11 =>
 w' (astoreR (some 13) (fr 6) v18 H11) ⟨fun _ H12 =>
 q' (some v28) H12 ⟨fun v7 H13 =>
 withChk [aloadR (some (some 13)) (fr 3) H4 = aloadR (some (some 13)) (fr 3) H5, aloadR (some (some 13)) (fr 3) H10 = aloadR (some (some 13)) (fr 3) H11, aloadR (some none) v23 H4 = aloadR (some none) v23 H5, aloadR (some none) v26 H4 = aloadR (some none) v26 H5] (e' [(6, fr 6), (7, v7)] H13)⟩⟩⟩⟩⟩⟩⟩⟩⟩⟩⟩⟩⟩)
@[simp] def r3 (s0 : SpecP) (s2 : SpecM) (fr : AFr) (H : AHeap) : ARes :=
 areg (q' (Ld' 13 (fr 3) H) H ⟨fun v31 H =>
 q' (Ld' 5 (fr 4) H) H ⟨fun v32 H =>
 o' (callP false s0 [[none, none, none, none, none, none, none, none, none, none, none, none, none], [none, none, none, none, none]] [v31, v32] H) ⟨fun v33 H =>
 o' (callM [false, false] s2 [[none], [none]] [(fr 2), v33] H) ⟨fun v34 H =>
 q' (aextract v34 0) H ⟨fun v35 H =>
 q' (aextract v34 1) H ⟨fun v36 H =>
 e' [(3, fr 3), (4, fr 4), (6, fr 6), (8, v35), (9, v36)] H⟩⟩⟩⟩⟩⟩)
@[simp] def r4 (fr : AFr) (H : AHeap) : ARes :=
 areg (q' (bn' .eql (fr 9) (.int .i64 0)) H ⟨fun v38 H =>
 e' [(3, fr 3), (4, fr 4), (6, fr 6), (8, fr 8), (9, fr 9), (38, v38)] H⟩)
@[simp] def r5 (fr : AFr) (H : AHeap) : ARes :=
 areg (q' (fa' 1 (fr 4)) H ⟨fun v39 H =>
 q' (ld' v39 H) H ⟨fun v40 H =>
 q' (fa' 0 (fr 3)) H ⟨fun v42 H =>
 q' (aindexAddrR (.arr 8 1) v42 v40) H ⟨fun v43 H =>
 w' (astoreR (some 1) v43 (fr 8) H) ⟨fun _ H =>
 e' [(3, fr 3), (6, fr 6), (9, fr 9)] H⟩⟩⟩⟩⟩)
@[simp] def r6 (fr : AFr) (H : AHeap) : ARes :=
 areg (q' (Ld' 13 (fr 3) H) H ⟨fun v44 H =>
 w' (astoreR (some 13) (fr 6) v44 H) ⟨fun _ H =>
 e' [(6, fr 6), (7, (fr 9))] H⟩⟩)
@[simp] def body (s0 : SpecP) (s1 s2 : SpecM) (fr : AFr) (H : AHeap) : ARes :=
  s' (r0 fr H) ⟨fun fr H =>
 s' (s' (r1 fr H) ⟨fun fr H =>
 c' (fr 17)
 ⟨s' (r2 s0 s1 fr H) ⟨fun fr H =>
 some (.ret, fr, H)⟩⟩
 ⟨some (.normal, fr, H)⟩⟩) ⟨fun fr H =>
 s' (r3 s0 s2 fr H) ⟨fun fr H =>
 s' (s' (r4 fr H) ⟨fun fr H =>
 c' (fr 38)
 ⟨r5 fr H⟩
 ⟨some (.normal, fr, H)⟩⟩) ⟨fun fr H =>
 s' (r6 fr H) ⟨fun fr H =>
 some (.ret, fr, H)⟩⟩⟩⟩⟩
@[simp] def res (fr : AFr) (H : AHeap) : Option (List AV) := res2 (aloadR (some (some 13)) (fr 6) H) (res2 (some (fr 7)) (some []))
end core_moves
def core_moves (a0 a1 a2 : AV) (H : AHeap) : Option (AV × AHeap) := forget H (afinR core_moves.res (core_moves.body core_addr.spec mem_Mem_Store.spec mem_Mem_Load.spec (args0 [a0, a1, a2]) H))
def core_moves.spec : List AV → AHeap → Option (AV × AHeap)
  | [a0, a1, a2], H => core_moves a0 a1 a2 H
  | _, _ => none
namespace core_flags
def C : Tab := Tab.none
@[simp] def r0 (fr : AFr) (H : AHeap) : ARes :=
 areg (o' (abox T.ty_api_State (fr 0) H) ⟨fun v2 H =>
 o' (aallocR T.ty_api_State (some (.agg [(W32 0#32), (W32 0#32), (W32 0#32), (W32 0#32), (W32 0#32), (W32 0#32), (W32 0#32), (W32 0#32), (W32 0#32), (.bool false), (.bool false), (.bool false), (.bool false)])) H) ⟨fun v4 H =>
 e' [(1, fr 1), (2, v2), (4, v4)] H⟩⟩)
@[simp] def r1 (fr : AFr) (H : AHeap) : ARes :=
 areg (q' (bn' .and (fr 1) (W32 2147483648#32)) H ⟨fun v6 H =>
 q' (bn' .neq v6 (W32 0#32)) H ⟨fun v7 H =>
 q' (bn' .eql (fr 1) (W32 0#32)) H ⟨fun v9 H =>
 q' (fa' 9 (fr 2)) H ⟨fun v10 H =>
 w' (astoreR (some 1) v10 v7 H) ⟨fun _ H =>
 q' (fa' 10 (fr 2)) H ⟨fun v11 H =>
 w' (astoreR (some 1) v11 v9 H) ⟨fun _ H =>
 e' [(2, fr 2), (4, fr 4)] H⟩⟩⟩⟩⟩⟩⟩)
@[simp] def r2 (fr : AFr) (H : AHeap) : ARes :=
 areg (q' (Ld' 13 (fr 2) H) H ⟨fun v12 H =>
 w' (astoreR (some 13) (fr 4) v12 H) ⟨fun _ H =>
 e' [(4, fr 4)] H⟩⟩)
@[simp] def body (fr : AFr) (H : AHeap) : ARes :=
  s' (r0 fr H) ⟨fun fr H =>
 s' (r1 fr H) ⟨fun fr H =>
 s' (r2 fr H) ⟨fun fr H =>
 some (.ret, fr, H)⟩⟩⟩
@[simp] def res (fr : AFr) (H : AHeap) : Option (List AV) := res2 (aloadR (some (some 13)) (fr 4) H) (some [])
end core_flags
def core_flags (a0 a1 : AV) : Option AV := closeUpR (some [[none, none, none, none, none, none, none, none, none, none, none, none, none]]) (afinR core_flags.res (core_flags.body (args0 [a0, a1]) AHeap.empty))
def core_flags.spec : List AV → Option AV
  | [a0, a1] => core_flags a0 a1
  | _ => none
namespace core_add
def C (s0 s1 : SpecP) : Tab := ((Tab.none.add 171 (.pure false s0)).add 128 (.pure false s1))
@[simp] def r0 (fr : AFr) (H : AHeap) : ARes :=
 areg (o' (abox T.ty_api_State (fr 0) H) ⟨fun v4 H =>
 o' (aallocR T.ty_api_State (some (.agg [(W32 0#32), (W32 0#32), (W32 0#32), (W32 0#32), (W32 0#32), (W32 0#32), (W32 0#32), (W32 0#32), (W32 0#32), (.bool false), (.bool false), (.bool false), (.bool false)])) H) ⟨fun v8 H =>
 e' [(1, fr 1), (2, fr 2), (3, fr 3), (4, v4), (8, v8)] H⟩⟩)
@[simp] def r1 (s0 : SpecP) (fr : AFr) (H : AHeap) : ARes :=
 areg (o' (callP false s0 [[none], [none], [none]] [(fr 1), (fr 2), (fr 3)] H) ⟨fun v17 H =>
 q' (aextract v17 0) H ⟨fun v18 H =>
 q' (aextract v17 1) H ⟨fun v19 H =>
 q' (aextract v17 2) H ⟨fun v20 H =>
 e' [(4, fr 4), (8, fr 8), (10, v18), (11, v19), (12, v20)] H⟩⟩⟩⟩)
@[simp] def r2 (fr : AFr) (H : AHeap) : ARes :=
 areg (q' (fa' 11 (fr 4)) H ⟨fun v23 H =>
 w' (astoreR (some 1) v23 (fr 11) H) ⟨fun _ H =>
 q' (fa' 12 (fr 4)) H ⟨fun v24 H =>
 w' (astoreR (some 1) v24 (fr 12) H) ⟨fun _ H =>
 e' [(4, fr 4), (8, fr 8), (10, fr 10)] H⟩⟩⟩⟩)
@[simp] def r3 (s1 : SpecP) (fr : AFr) (H : AHeap) : ARes :=
 areg (q' (Ld' 13 (fr 4) H) H ⟨fun v25 H =>
 o' (callP false s1 [[none, none, none, none, none, none, none, none, none, none, none, none, none], [none]] [v25, (fr 10)] H) ⟨fun v27 H =>
 w' (astoreR (some 13) (fr 8) v27 H) ⟨fun _ H =>
 e' [(8, fr 8), (9, (fr 10))] H⟩⟩⟩)
@[simp] def body (s0 s1 : SpecP) (fr : AFr) (H : AHeap) : ARes :=
  s' (r0 fr H) ⟨fun fr H =>
 s' (r1 s0 fr H) ⟨fun fr H =>
 s' (r2 fr H) ⟨fun fr H =>
 s' (r3 s1 fr H) ⟨fun fr H =>
 some (.ret, fr, H)⟩⟩⟩⟩
@[simp] def res (fr : AFr) (H : AHeap) : Option (List AV) := res2 (aloadR (some (some 13)) (fr 8) H) (res2 (some (fr 9)) (some []))
end core_add
def core_add (a0 a1 a2 a3 : AV) : Option AV := closeUpR (some [[none, none, none, none, none, none, none, none, none, none, none, none, none], [none]]) (afinR core_add.res (core_add.body word_Add.spec core_flags.spec (args0 [a0, a1, a2, a3]) AHeap.empty))
def core_add.spec : List AV → Option AV
  | [a0, a1, a2, a3] => core_add a0 a1 a2 a3
  | _ => none
namespace core_shift
def C (s0 s1 : SpecP) : Tab := ((Tab.none.add 172 (.pure false s0)).add 128 (.pure false s1))
@[simp] def r0 (fr : AFr) (H : AHeap) : ARes :=
 areg (o' (abox T.ty_api_State (fr 0) H) ⟨fun v4 H =>
 o' (aallocR T.ty_api_State (some (.agg [(W32 0#32), (W32 0#32), (W32 0#32), (W32 0#32), (W32 0#32), (W32 0#32), (W32 0#32), (W32 0#32), (W32 0#32), (.bool false), (.bool false), (.bool false), (.bool false)])) H) ⟨fun v8 H =>
 e' [(1, fr 1), (2, fr 2), (3, fr 3), (4, v4), (8, v8)] H⟩⟩)
@[simp] def r1 (s0 : SpecP) (fr : AFr) (H : AHeap) : ARes :=
 areg (q' (fa' 11 (fr 4)) H ⟨fun v16 H =>
 q' (ld' v16 H) H ⟨fun v17 H =>
 o' (callP false s0 [[none], [none], [none], [none]] [(fr 1), (fr 2), (fr 3), v17] H) ⟨fun v18 H =>
 q' (aextract v18 0) H ⟨fun v19 H =>
 q' (aextract v18 1) H ⟨fun v20 H =>
 e' [(4, fr 4), (8, fr 8), (10, v19), (11, v20)] H⟩⟩⟩⟩⟩)
@[simp] def r2 (fr : AFr) (H : AHeap) : ARes :=
 areg (q' (fa' 11 (fr 4)) H ⟨fun v22 H =>
 w' (astoreR (some 1) v22 (fr 11) H) ⟨fun _ H =>
 e' [(4, fr 4), (8, fr 8), (10, fr 10)] H⟩⟩)
@[simp] def r3 (s1 : SpecP) (fr : AFr) (H : AHeap) : ARes :=
 areg (q' (Ld' 13 (fr 4) H) H ⟨fun v23 H =>
 o' (callP false s1 [[none, none, none, none, none, none, none, none, none, none, none, none, none], [none]] [v23, (fr 10)] H) ⟨fun v25 H =>
 w' (astoreR (some 13) (fr 8) v25 H) ⟨fun _ H =>
 e' [(8, fr 8), (9, (fr 10))] H⟩⟩⟩)
@[simp] def body (s0 s1 : SpecP) (fr : AFr) (H : AHeap) : ARes :=
  s' (r0 fr H) ⟨fun fr H =>
 s' (r1 s0 fr H) ⟨fun fr H =>
 s' (r2 fr H) ⟨fun fr H =>
 s' (r3 s1 fr H) ⟨fun fr H =>
 some (.ret, fr, H)⟩⟩⟩⟩
@[simp] def res (fr : AFr) (H : AHeap) : Option (List AV) := res2 (aloadR (some (some 13)) (fr 8) H) (res2 (some (fr 9)) (some []))
end core_shift
def core_shift (a0 a1 a2 a3 : AV) : Option AV := closeUpR (some [[none, none, none, none, none, none, none, none, none, none, none, none, none], [none]]) (afinR core_shift.res (core_shift.body word_Shift.spec core_flags.spec (args0 [a0, a1, a2, a3]) AHeap.empty))
def core_shift.spec : List AV → Option AV
  | [a0, a1, a2, a3] => core_shift a0 a1 a2 a3
  | _ => none
namespace core_alu
def C (s0 s1 s2 : SpecP) : Tab := (((Tab.none.add 130 (.pure false s0)).add 129 (.pure false s1)).add 128 (.pure false s2))
@[simp] def r0 (fr : AFr) (H : AHeap) : ARes :=
 areg (o' (abox T.ty_api_State (fr 0) H) ⟨fun v4 H =>
 o' (aallocR T.ty_api_State (some (.agg [(W32 0#32), (W32 0#32), (W32 0#32), (W32 0#32), (W32 0#32), (W32 0#32), (W32 0#32), (W32 0#32), (W32 0#32), (.bool false), (.bool false), (.bool false), (.bool false)])) H) ⟨fun v8 H =>
 e' [(1, fr 1), (2, fr 2), (3, fr 3), (4, v4), (8, v8)] H⟩⟩)
@[simp] def r1 (fr : AFr) (H : AHeap) : ARes :=
 areg (e' [(1, fr 1), (2, fr 2), (3, fr 3), (4, fr 4), (8, fr 8), (10, (W32 0#32))] H)
@[simp] def r2 (fr : AFr) (H : AHeap) : ARes :=
 areg (e' [(1, fr 1), (2, fr 2), (3, fr 3), (4, fr 4), (8, fr 8), (10, fr 10), (11, (fr 1))] H)
@[simp] def r3 (fr : AFr) (H : AHeap) : ARes :=
 areg (q' (bn' .eql (fr 11) (.int .i64 0)) H ⟨fun v13 H =>
 e' [(1, fr 1), (2, fr 2), (3, fr 3), (4, fr 4), (8, fr 8), (10, fr 10), (11, fr 11), (12, v13)] H⟩)
@[simp] def r4 (fr : AFr) (H : AHeap) : ARes :=
 areg (q' (bn' .eql (fr 11) (.int .i64 8)) H ⟨fun v14 H =>
 e' [(1, fr 1), (2, fr 2), (3, fr 3), (4, fr 4), (8, fr 8), (10, fr 10), (11, fr 11), (12, v14)] H⟩)
@[simp] def r5 (fr : AFr) (H : AHeap) : ARes :=
 areg (q' (bn' .and (fr 2) (fr 3)) H ⟨fun v17 H =>
 e' [(4, fr 4), (8, fr 8), (10, v17)] H⟩)
@[simp] def r6 (fr : AFr) (H : AHeap) : ARes :=
 areg (q' (bn' .eql (fr 11) (.int .i64 1)) H ⟨fun v19 H =>
 e' [(1, fr 1), (2, fr 2), (3, fr 3), (4, fr 4), (8, fr 8), (10, fr 10), (11, fr 11), (18, v19)] H⟩)
@[simp] def r7 (fr : AFr) (H : AHeap) : ARes :=
 areg (q' (bn' .xor (fr 2) (fr 3)) H ⟨fun v22 H =>
 e' [(4, fr 4), (8, fr 8), (10, v22)] H⟩)
@[simp] def r8 (fr : AFr) (H : AHeap) : ARes :=
 areg (q' (bn' .eql (fr 11) (.int .i64 12)) H ⟨fun v24 H =>
 e' [(1, fr 1), (2, fr 2), (3, fr 3), (4, fr 4), (8, fr 8), (10, fr 10), (11, fr 11), (23, v24)] H⟩)
@[simp] def r9 (fr : AFr) (H : AHeap) : ARes :=
 areg (q' (bn' .or (fr 2) (fr 3)) H ⟨fun v27 H =>
 e' [(4, fr 4), (8, fr 8), (10, v27)] H⟩)
@[simp] def r10 (fr : AFr) (H : AHeap) : ARes :=
 areg (q' (bn' .eql (fr 11) (.int .i64 14)) H ⟨fun v29 H =>
 e' [(1, fr 1), (2, fr 2), (3, fr 3), (4, fr 4), (8, fr 8), (10, fr 10), (11, fr 11), (28, v29)] H⟩)
@[simp] def r11 (fr : AFr) (H : AHeap) : ARes :=
 areg (q' (bn' .andNot (fr 2) (fr 3)) H ⟨fun v32 H =>
 e' [(4, fr 4), (8, fr 8), (10, v32)] H⟩)
@[simp] def r12 (fr : AFr) (H : AHeap) : ARes :=
 areg (q' (bn' .eql (fr 11) (.int .i64 15)) H ⟨fun v34 H =>
 e' [(1, fr 1), (2, fr 2), (3, fr 3), (4, fr 4), (8, fr 8), (10, fr 10), (11, fr 11), (33, v34)] H⟩)
@[simp] def r13 (fr : AFr) (H : AHeap) : ARes :=
 areg (q' (aun .xor (fr 3)) H ⟨fun v36 H =>
 e' [(4, fr 4), (8, fr 8), (10, v36)] H⟩)
@[simp] def r14 (fr : AFr) (H : AHeap) : ARes :=
 areg (q' (bn' .eql (fr 11) (.int .i64 13)) H ⟨fun v38 H =>
 e' [(1, fr 1), (2, fr 2), (3, fr 3), (4, fr 4), (8, fr 8), (10, fr 10), (11, fr 11), (37, v38)] H⟩)
@[simp] def r15 (fr : AFr) (H : AHeap) : ARes :=
 areg (q' (bn' .mul (fr 2) (fr 3)) H ⟨fun v41 H =>
 e' [(4, fr 4), (8, fr 8), (10, v41)] H⟩)
@[simp] def r16 (fr : AFr) (H : AHeap) : ARes :=
 areg (q' (bn' .eql (fr 11) (.int .i64 2)) H ⟨fun v43 H =>
 e' [(1, fr 1), (2, fr 2), (3, fr 3), (4, fr 4), (8, fr 8), (10, fr 10), (11, fr 11), (42, v43)] H⟩)
@[simp] def r17 (fr : AFr) (H : AHeap) : ARes :=
 areg (q' (bn' .eql (fr 11) (.int .i64 3)) H ⟨fun v44 H =>
 e' [(1, fr 1), (2, fr 2), (3, fr 3), (4, fr 4), (8, fr 8), (10, fr 10), (11, fr 11), (42, v44)] H⟩)
@[simp] def r18 (fr : AFr) (H : AHeap) : ARes :=
 areg (q' (bn' .eql (fr 11) (.int .i64 4)) H ⟨fun v45 H =>
 e' [(1, fr 1), (2, fr 2), (3, fr 3), (4, fr 4), (8, fr 8), (10, fr 10), (11, fr 11), (42, v45)] H⟩)
@[simp] def r19 (s0 : SpecP) (fr : AFr) (H : AHeap) : ARes :=
 areg (q' (Ld' 13 (fr 4) H) H ⟨fun v46 H =>
 q' (bn' .sub (fr 1) (.int .i64 2)) H ⟨fun v48 H =>
 q' (bn' .add v48 (.int .i64 0)) H ⟨fun v49 H =>
 q' (bn' .and (fr 3) (W32 255#32)) H ⟨fun v52 H =>
 o' (callP false s0 [[none, none, none, none, none, none, none, none, none, none, none, none, none], [none], [none], [none]] [v46, v49, (fr 2), v52] H) ⟨fun v53 H =>
 q' (aextract v53 0) H ⟨fun v54 H =>
 q' (aextract v53 1) H ⟨fun v55 H =>
 w' (astoreR (some 13) (fr 8) v54 H) ⟨fun _ H =>
 e' [(8, fr 8), (9, v55)] H⟩⟩⟩⟩⟩⟩⟩⟩)
@[simp] def r20 (fr : AFr) (H : AHeap) : ARes :=
 areg (q' (bn' .eql (fr 11) (.int .i64 7)) H ⟨fun v57 H =>
 e' [(2, fr 2), (3, fr 3), (4, fr 4), (8, fr 8), (10, fr 10), (11, fr 11), (56, v57)] H⟩)
@[simp] def r21 (s0 : SpecP) (fr : AFr) (H : AHeap) : ARes :=
 areg (q' (Ld' 13 (fr 4) H) H ⟨fun v58 H =>
 q' (bn' .and (fr 3) (W32 255#32)) H ⟨fun v61 H =>
 o' (callP false s0 [[none, none, none, none, none, none, none, none, none, none, none, none, none], [none], [none], [none]] [v58, (.int .i64 3), (fr 2), v61] H) ⟨fun v62 H =>
 q' (aextract v62 0) H ⟨fun v63 H =>
 q' (aextract v62 1) H ⟨fun v64 H =>
 w' (astoreR (some 13) (fr 8) v63 H) ⟨fun _ H =>
 e' [(8, fr 8), (9, v64)] H⟩⟩⟩⟩⟩⟩)
@[simp] def r22 (fr : AFr) (H : AHeap) : ARes :=
 areg (q' (bn' .eql (fr 11) (.int .i64 5)) H ⟨fun v66 H =>
 e' [(2, fr 2), (3, fr 3), (4, fr 4), (8, fr 8), (10, fr 10), (11, fr 11), (65, v66)] H⟩)
@[simp] def r23 (s1 : SpecP) (fr : AFr) (H : AHeap) : ARes :=
 areg (q' (Ld' 13 (fr 4) H) H ⟨fun v67 H =>
 q' (fa' 11 (fr 4)) H ⟨fun v70 H =>
 q' (ld' v70 H) H ⟨fun v71 H =>
 o' (callP false s1 [[none, none, none, none, none, none, none, none, none, none, none, none, none], [none], [none], [none]] [v67, (fr 2), (fr 3), v71] H) ⟨fun v72 H =>
 q' (aextract v72 0) H ⟨fun v73 H =>
 q' (aextract v72 1) H ⟨fun v74 H =>
 w' (astoreR (some 13) (fr 8) v73 H) ⟨fun _ H =>
 e' [(8, fr 8), (9, v74)] H⟩⟩⟩⟩⟩⟩⟩)
@[simp] def r24 (fr : AFr) (H : AHeap) : ARes :=
 areg (q' (bn' .eql (fr 11) (.int .i64 6)) H ⟨fun v76 H =>
 e' [(2, fr 2), (3, fr 3), (4, fr 4), (8, fr 8), (10, fr 10), (11, fr 11), (75, v76)] H⟩)
@[simp] def r25 (s1 : SpecP) (fr : AFr) (H : AHeap) : ARes :=
 areg (q' (Ld' 13 (fr 4) H) H ⟨fun v77 H =>
 q' (aun .xor (fr 3)) H ⟨fun v80 H =>
 q' (fa' 11 (fr 4)) H ⟨fun v81 H =>
 q' (ld' v81 H) H ⟨fun v82 H =>
 o' (callP false s1 [[none, none, none, none, none, none, none, none, none, none, none, none, none], [none], [none], [none]] [v77, (fr 2), v80, v82] H) ⟨fun v83 H =>
 q' (aextract v83 0) H ⟨fun v84 H =>
 q' (aextract v83 1) H ⟨fun v85 H =>
 w' (astoreR (some 13) (fr 8) v84 H) ⟨fun _ H =>
 e' [(8, fr 8), (9, v85)] H⟩⟩⟩⟩⟩⟩⟩⟩)
@[simp] def r26 (fr : AFr) (H : AHeap) : ARes :=
 areg (q' (bn' .eql (fr 11) (.int .i64 9)) H ⟨fun v87 H =>
 e' [(2, fr 2), (3, fr 3), (4, fr 4), (8, fr 8), (10, fr 10), (11, fr 11), (86, v87)] H⟩)
@[simp] def r27 (s1 : SpecP) (fr : AFr) (H : AHeap) : ARes :=
 areg (q' (Ld' 13 (fr 4) H) H ⟨fun v88 H =>
 q' (aun .xor (fr 3)) H ⟨fun v90 H =>
 o' (callP false s1 [[none, none, none, none, none, none, none, none, none, none, none, none, none], [none], [none], [none]] [v88, (W32 0#32), v90, (.bool true)] H) ⟨fun v91 H =>
 q' (aextract v91 0) H ⟨fun v92 H =>
 q' (aextract v91 1) H ⟨fun v93 H =>
 w' (astoreR (some 13) (fr 8) v92 H) ⟨fun _ H =>
 e' [(8, fr 8), (9, v93)] H⟩⟩⟩⟩⟩⟩)
@[simp] def r28 (fr : AFr) (H : AHeap) : ARes :=
 areg (q' (bn' .eql (fr 11) (.int .i64 10)) H ⟨fun v95 H =>
 e' [(2, fr 2), (3, fr 3), (4, fr 4), (8, fr 8), (10, fr 10), (11, fr 11), (94, v95)] H⟩)
@[simp] def r29 (s1 : SpecP) (fr : AFr) (H : AHeap) : ARes :=
 areg (q' (Ld' 13 (fr 4) H) H ⟨fun v96 H =>
 q' (aun .xor (fr 3)) H ⟨fun v99 H =>
 o' (callP false s1 [[none, none, none, none, none, none, none, none, none, none, none, none, none], [none], [none], [none]] [v96, (fr 2), v99, (.bool true)] H) ⟨fun v100 H =>
 q' (aextract v100 0) H ⟨fun v101 H =>
 q' (aextract v100 1) H ⟨fun v102 H =>
 w' (astoreR (some 13) (fr 8) v101 H) ⟨fun _ H =>
 e' [(8, fr 8), (9, v102)] H⟩⟩⟩⟩⟩⟩)
@[simp] def r30 (fr : AFr) (H : AHeap) : ARes :=
 areg (q' (bn' .eql (fr 11) (.int .i64 11)) H ⟨fun v104 H =>
 e' [(2, fr 2), (3, fr 3), (4, fr 4), (8, fr 8), (10, fr 10), (103, v104)] H⟩)
@[simp] def r31 (s1 : SpecP) (fr : AFr) (H : AHeap) : ARes :=
 areg (q' (Ld' 13 (fr 4) H) H ⟨fun v105 H =>
 o' (callP false s1 [[none, none, none, none, none, none, none, none, none, none, none, none, none], [none], [none], [none]] [v105, (fr 2), (fr 3), (.bool false)] H) ⟨fun v108 H =>
 q' (aextract v108 0) H ⟨fun v109 H =>
 q' (aextract v108 1) H ⟨fun v110 H =>
 w' (astoreR (some 13) (fr 8) v109 H) ⟨fun _ H =>
 e' [(8, fr 8), (9, v110)] H⟩⟩⟩⟩⟩)
@[simp] def r32 (s2 : SpecP) (fr : AFr) (H : AHeap) : ARes :=
 areg (q' (Ld' 13 (fr 4) H) H ⟨fun v111 H =>
 o' (callP false s2 [[none, none, none, none, none, none, none, none, none, none, none, none, none], [none]] [v111, (fr 10)] H) ⟨fun v113 H =>
 w' (astoreR (some 13) (fr 8) v113 H) ⟨fun _ H =>
 e' [(8, fr 8), (9, (fr 10))] H⟩⟩⟩)
@[simp] def body (s0 s1 s2 : SpecP) (fr : AFr) (H : AHeap) : ARes :=
  s' (r0 fr H) ⟨fun fr H =>
 s' (r1 fr H) ⟨fun fr H =>
 s' (s' (r2 fr H) ⟨fun fr H =>
  aexit 0 (s' (s' (r3 fr H) ⟨fun fr H =>
 c' (fr 12)
 ⟨some (.normal, fr, H)⟩
 ⟨r4 fr H⟩⟩) ⟨fun fr H =>
 c' (fr 12)
 ⟨r5 fr H⟩
 ⟨s' (r6 fr H) ⟨fun fr H =>
 c' (fr 18)
 ⟨r7 fr H⟩
 ⟨s' (r8 fr H) ⟨fun fr H =>
 c' (fr 23)
 ⟨r9 fr H⟩
 ⟨s' (r10 fr H) ⟨fun fr H =>
 c' (fr 28)
 ⟨r11 fr H⟩
 ⟨s' (r12 fr H) ⟨fun fr H =>
 c' (fr 33)
 ⟨r13 fr H⟩
 ⟨s' (r14 fr H) ⟨fun fr H =>
 c' (fr 37)
 ⟨r15 fr H⟩
 ⟨s' (s' (r16 fr H) ⟨fun fr H =>
 c' (fr 42)
 ⟨some (.normal, fr, H)⟩
 ⟨s' (r17 fr H) ⟨fun fr H =>
 c' (fr 42)
 ⟨some (.normal, fr, H)⟩
 ⟨r18 fr H⟩⟩⟩⟩) ⟨fun fr H =>
 c' (fr 42)
 ⟨s' (r19 s0 fr H) ⟨fun fr H =>
 some (.ret, fr, H)⟩⟩
 ⟨s' (r20 fr H) ⟨fun fr H =>
 c' (fr 56)
 ⟨s' (r21 s0 fr H) ⟨fun fr H =>
 some (.ret, fr, H)⟩⟩
 ⟨s' (r22 fr H) ⟨fun fr H =>
 c' (fr 65)
 ⟨s' (r23 s1 fr H) ⟨fun fr H =>
 some (.ret, fr, H)⟩⟩
 ⟨s' (r24 fr H) ⟨fun fr H =>
 c' (fr 75)
 ⟨s' (r25 s1 fr H) ⟨fun fr H =>
 some (.ret, fr, H)⟩⟩
 ⟨s' (r26 fr H) ⟨fun fr H =>
 c' (fr 86)
 ⟨s' (r27 s1 fr H) ⟨fun fr H =>
 some (.ret, fr, H)⟩⟩
 ⟨s' (r28 fr H) ⟨fun fr H =>
 c' (fr 94)
 ⟨s' (r29 s1 fr H) ⟨fun fr H =>
 some (.ret, fr, H)⟩⟩
 ⟨s' (r30 fr H) ⟨fun fr H =>
 c' (fr 103)
 ⟨s' (r31 s1 fr H) ⟨fun fr H =>
 some (.ret, fr, H)⟩⟩
 ⟨some (.normal, fr, H)⟩⟩⟩⟩⟩⟩⟩⟩⟩⟩⟩⟩⟩⟩⟩⟩⟩⟩⟩⟩⟩⟩⟩⟩⟩⟩)⟩) ⟨fun fr H =>
 s' (r32 s2 fr H) ⟨fun fr H =>
 some (.ret, fr, H)⟩⟩⟩⟩
@[simp] def res (fr : AFr) (H : AHeap) : Option (List AV) := res2 (aloadR (some (some 13)) (fr 8) H) (res2 (some (fr 9)) (some []))
end core_alu
def core_alu (a0 a1 a2 a3 : AV) : Option AV := closeUpR (some [[none, none, none, none, none, none, none, none, none, none, none, none, none], [none]]) (afinR core_alu.res (core_alu.body core_shift.spec core_add.spec core_flags.spec (args0 [a0, a1, a2, a3]) AHeap.empty))
def core_alu.spec : List AV → Option AV
  | [a0, a1, a2, a3] => core_alu a0 a1 a2 a3
  | _ => none
namespace core_reckons
def C (s0 s1 s2 s3 : SpecP) : Tab := ((((Tab.none.add 128 (.pure false s0)).add 129 (.pure false s1)).add 130 (.pure false s2)).add 131 (.pure false s3))
@[simp] def r0 (fr : AFr) (H : AHeap) : ARes :=
 areg (o' (abox T.ty_api_State (fr 0) H) ⟨fun v2 H =>
 o' (abox T.ty_api_Ins (fr 1) H) ⟨fun v3 H =>
 o' (aallocR T.ty_api_State (some (.agg [(W32 0#32), (W32 0#32), (W32 0#32), (W32 0#32), (W32 0#32), (W32 0#32), (W32 0#32), (W32 0#32), (W32 0#32), (.bool false), (.bool false), (.bool false), (.bool false)])) H) ⟨fun v4 H =>
 e' [(2, v2), (3, v3), (4, v4)] H⟩⟩⟩)
@[simp] def r1 (fr : AFr) (H : AHeap) : ARes :=
 areg (q' (fa' 4 (fr 3)) H ⟨fun v10 H =>
 q' (ld' v10 H) H ⟨fun v11 H =>
 q' (aconvR (some .u32) v11) H ⟨fun v12 H =>
 e' [(2, fr 2), (3, fr 3), (4, fr 4), (6, v12)] H⟩⟩⟩)
@[simp] def r2 (fr : AFr) (H : AHeap) : ARes :=
 areg (q' (fa' 1 (fr 3)) H ⟨fun v13 H1 =>
 q' (ld' v13 H1) H1 ⟨fun v14 H2 =>
 q' (fa' 0 (fr 2)) H2 ⟨fun v15 H3 =>
 q' (aindexAddrR (.arr 8 1) v15 v14) H3 ⟨fun v16 H4 =>
 q' (ld' v16 H4) H4 ⟨fun v17 H5 =>
 q' (fa' 2 (fr 3)) H5 ⟨fun v18 H6 =>
 q' (ld' v18 H6) H6 ⟨fun v19 H7 =>
 q' (fa' 0 (fr 2)) H7 ⟨fun v20 H8 =>
 q' (aindexAddrR (.arr 8 1) v20 v19) H8 ⟨fun v21 H9 =>
 q' (ld' v21 H9) H9 ⟨fun v22 H10 =>
 q' (fa' 3 (fr 3)) H10 ⟨fun v23 H11 =>
 q' (ld' v23 H11) H11 ⟨fun v24 H12 =>
 q' (fa' 0 (fr 2)) H12 ⟨fun v25 H13 =>
 q' (aindexAddrR (.arr 8 1) v25 v24) H13 ⟨fun v26 H14 =>
 q' (ld' v26 H14) H14 ⟨fun v27 H15 =>
 q' (some v17) H15 ⟨fun v7 H16 =>
 q' (some v22) H16 ⟨fun v8 H17 =>
 q' (some v27) H17 ⟨fun v9 H18 =>
 e' [(2, fr 2), (3, fr 3), (4, fr 4), (6, fr 6), (7, v7), (8, v8), (9, v9)] H18⟩⟩⟩⟩⟩⟩⟩⟩⟩⟩⟩⟩⟩⟩⟩⟩⟩⟩)
@[simp] def r3 (fr : AFr) (H : AHeap) : ARes :=
 areg (q' (fa' 0 (fr 3)) H ⟨fun v28 H =>
 q' (ld' v28 H) H ⟨fun v29 H =>
 e' [(2, fr 2), (3, fr 3), (4, fr 4), (6, fr 6), (7, fr 7), (8, fr 8), (9, fr 9), (29, v29)] H⟩⟩)
@[simp] def r4 (fr : AFr) (H : AHeap) : ARes :=
 areg (q' (bn' .eql (fr 29) (.int .i64 0)) H ⟨fun v31 H =>
 e' [(2, fr 2), (3, fr 3), (4, fr 4), (6, fr 6), (7, fr 7), (8, fr 8), (9, fr 9), (29, fr 29), (30, v31)] H⟩)
@[simp] def r5 (s0 : SpecP) (fr : AFr) (H : AHeap) : ARes :=
 areg (q' (Ld' 13 (fr 2) H) H ⟨fun v32 H =>
 o' (callP false s0 [[none, none, none, none, none, none, none, none, none, none, none, none, none], [none]] [v32, (fr 6)] H) ⟨fun v34 H =>
 w' (astoreR (some 13) (fr 4) v34 H) ⟨fun _ H =>
 e' [(4, fr 4), (5, (fr 6))] H⟩⟩⟩)
@[simp] def r6 (fr : AFr) (H : AHeap) : ARes :=
 areg (q' (bn' .eql (fr 29) (.int .i64 1)) H ⟨fun v37 H =>
 e' [(2, fr 2), (3, fr 3), (4, fr 4), (6, fr 6), (7, fr 7), (8, fr 8), (9, fr 9), (29, fr 29), (36, v37)] H⟩)
@[simp] def r7 (fr : AFr) (H : AHeap) : ARes :=
 areg (q' (bn' .eql (fr 29) (.int .i64 3)) H ⟨fun v38 H =>
 e' [(2, fr 2), (3, fr 3), (4, fr 4), (6, fr 6), (7, fr 7), (8, fr 8), (9, fr 9), (29, fr 29), (36, v38)] H⟩)
@[simp] def r8 (s1 : SpecP) (fr : AFr) (H : AHeap) : ARes :=
 areg (q' (Ld' 13 (fr 2) H) H ⟨fun v39 H =>
 q' (aun .xor (fr 6)) H ⟨fun v42 H =>
 o' (callP false s1 [[none, none, none, none, none, none, none, none, none, none, none, none, none], [none], [none], [none]] [v39, (fr 7), v42, (.bool true)] H) ⟨fun v43 H =>
 q' (aextract v43 0) H ⟨fun v44 H =>
 q' (aextract v43 1) H ⟨fun v45 H =>
 w' (astoreR (some 13) (fr 4) v44 H) ⟨fun _ H =>
 e' [(4, fr 4), (5, v45)] H⟩⟩⟩⟩⟩⟩)
@[simp] def r9 (fr : AFr) (H : AHeap) : ARes :=
 areg (q' (bn' .eql (fr 29) (.int .i64 2)) H ⟨fun v47 H =>
 e' [(2, fr 2), (3, fr 3), (4, fr 4), (6, fr 6), (7, fr 7), (8, fr 8), (9, fr 9), (29, fr 29), (46, v47)] H⟩)
@[simp] def r10 (s1 : SpecP) (fr : AFr) (H : AHeap) : ARes :=
 areg (q' (Ld' 13 (fr 2) H) H ⟨fun v48 H =>
 o' (callP false s1 [[none, none, none, none, none, none, none, none, none, none, none, none, none], [none], [none], [none]] [v48, (fr 7), (fr 6), (.bool false)] H) ⟨fun v51 H =>
 q' (aextract v51 0) H ⟨fun v52 H =>
 q' (aextract v51 1) H ⟨fun v53 H =>
 w' (astoreR (some 13) (fr 4) v52 H) ⟨fun _ H =>
 e' [(4, fr 4), (5, v53)] H⟩⟩⟩⟩⟩)
@[simp] def r11 (fr : AFr) (H : AHeap) : ARes :=
 areg (q' (bn' .eql (fr 29) (.int .i64 4)) H ⟨fun v55 H =>
 e' [(2, fr 2), (3, fr 3), (4, fr 4), (6, fr 6), (7, fr 7), (8, fr 8), (9, fr 9), (29, fr 29), (54, v55)] H⟩)
@[simp] def r12 (fr : AFr) (H : AHeap) : ARes :=
 areg (q' (bn' .eql (fr 29) (.int .i64 5)) H ⟨fun v56 H =>
 e' [(2, fr 2), (3, fr 3), (4, fr 4), (6, fr 6), (7, fr 7), (8, fr 8), (9, fr 9), (29, fr 29), (54, v56)] H⟩)
@[simp] def r13 (fr : AFr) (H : AHeap) : ARes :=
 areg (q' (bn' .eql (fr 29) (.int .i64 6)) H ⟨fun v57 H =>
 e' [(2, fr 2), (3, fr 3), (4, fr 4), (6, fr 6), (7, fr 7), (8, fr 8), (9, fr 9), (29, fr 29), (54, v57)] H⟩)
@[simp] def r14 (s2 : SpecP) (fr : AFr) (H : AHeap) : ARes :=
 areg (q' (Ld' 13 (fr 2) H) H ⟨fun v58 H =>
 q' (fa' 0 (fr 3)) H ⟨fun v59 H =>
 q' (ld' v59 H) H ⟨fun v60 H =>
 q' (bn' .sub v60 (.int .i64 4)) H ⟨fun v61 H =>
 q' (bn' .add v61 (.int .i64 0)) H ⟨fun v62 H =>
 o' (callP false s2 [[none, none, none, none, none, none, none, none, none, none, none, none, none], [none], [none], [none]] [v58, v62, (fr 9), (fr 6)] H) ⟨fun v65 H =>
 q' (aextract v65 0) H ⟨fun v66 H =>
 q' (aextract v65 1) H ⟨fun v67 H =>
 w' (astoreR (some 13) (fr 4) v66 H) ⟨fun _ H =>
 e' [(4, fr 4), (5, v67)] H⟩⟩⟩⟩⟩⟩⟩⟩⟩)
@[simp] def r15 (fr : AFr) (H : AHeap) : ARes :=
 areg (q' (bn' .eql (fr 29) (.int .i64 7)) H ⟨fun v69 H =>
 e' [(2, fr 2), (3, fr 3), (4, fr 4), (6, fr 6), (7, fr 7), (8, fr 8), (9, fr 9), (29, fr 29), (68, v69)] H⟩)
@[simp] def r16 (s1 : SpecP) (fr : AFr) (H : AHeap) : ARes :=
 areg (q' (Ld' 13 (fr 2) H) H ⟨fun v70 H =>
 o' (callP false s1 [[none, none, none, none, none, none, none, none, none, none, none, none, none], [none], [none], [none]] [v70, (fr 8), (fr 9), (.bool false)] H) ⟨fun v73 H =>
 q' (aextract v73 0) H ⟨fun v74 H =>
 q' (aextract v73 1) H ⟨fun v75 H =>
 w' (astoreR (some 13) (fr 4) v74 H) ⟨fun _ H =>
 e' [(4, fr 4), (5, v75)] H⟩⟩⟩⟩⟩)
@[simp] def r17 (fr : AFr) (H : AHeap) : ARes :=
 areg (q' (bn' .eql (fr 29) (.int .i64 8)) H ⟨fun v77 H =>
 e' [(2, fr 2), (3, fr 3), (4, fr 4), (6, fr 6), (7, fr 7), (8, fr 8), (9, fr 9), (29, fr 29), (76, v77)] H⟩)
@[simp] def r18 (s1 : SpecP) (fr : AFr) (H : AHeap) : ARes :=
 areg (q' (Ld' 13 (fr 2) H) H ⟨fun v78 H =>
 q' (aun .xor (fr 9)) H ⟨fun v81 H =>
 o' (callP false s1 [[none, none, none, none, none, none, none, none, none, none, none, none, none], [none], [none], [none]] [v78, (fr 8), v81, (.bool true)] H) ⟨fun v82 H =>
 q' (aextract v82 0) H ⟨fun v83 H =>
 q' (aextract v82 1) H ⟨fun v84 H =>
 w' (astoreR (some 13) (fr 4) v83 H) ⟨fun _ H =>
 e' [(4, fr 4), (5, v84)] H⟩⟩⟩⟩⟩⟩)
@[simp] def r19 (fr : AFr) (H : AHeap) : ARes :=
 areg (q' (bn' .eql (fr 29) (.int .i64 9)) H ⟨fun v86 H =>
 e' [(2, fr 2), (3, fr 3), (4, fr 4), (6, fr 6), (7, fr 7), (8, fr 8), (9, fr 9), (29, fr 29), (85, v86)] H⟩)
@[simp] def r20 (s1 : SpecP) (fr : AFr) (H : AHeap) : ARes :=
 areg (q' (Ld' 13 (fr 2) H) H ⟨fun v87 H =>
 o' (callP false s1 [[none, none, none, none, none, none, none, none, none, none, none, none, none], [none], [none], [none]] [v87, (fr 8), (fr 6), (.bool false)] H) ⟨fun v90 H =>
 q' (aextract v90 0) H ⟨fun v91 H =>
 q' (aextract v90 1) H ⟨fun v92 H =>
 w' (astoreR (some 13) (fr 4) v91 H) ⟨fun _ H =>
 e' [(4, fr 4), (5, v92)] H⟩⟩⟩⟩⟩)
@[simp] def r21 (fr : AFr) (H : AHeap) : ARes :=
 areg (q' (bn' .eql (fr 29) (.int .i64 10)) H ⟨fun v94 H =>
 e' [(2, fr 2), (3, fr 3), (4, fr 4), (6, fr 6), (7, fr 7), (8, fr 8), (9, fr 9), (93, v94)] H⟩)
@[simp] def r22 (s1 : SpecP) (fr : AFr) (H : AHeap) : ARes :=
 areg (q' (Ld' 13 (fr 2) H) H ⟨fun v95 H =>
 q' (aun .xor (fr 6)) H ⟨fun v98 H =>
 o' (callP false s1 [[none, none, none, none, none, none, none, none, none, none, none, none, none], [none], [none], [none]] [v95, (fr 8), v98, (.bool true)] H) ⟨fun v99 H =>
 q' (aextract v99 0) H ⟨fun v100 H =>
 q' (aextract v99 1) H ⟨fun v101 H =>
 w' (astoreR (some 13) (fr 4) v100 H) ⟨fun _ H =>
 e' [(4, fr 4), (5, v101)] H⟩⟩⟩⟩⟩⟩)
@[simp] def r23 (s3 : SpecP) (fr : AFr) (H : AHeap) : ARes :=
 areg (q' (Ld' 13 (fr 2) H) H ⟨fun v102 H =>
 q' (fa' 4 (fr 3)) H ⟨fun v103 H =>
 q' (ld' v103 H) H ⟨fun v104 H =>
 o' (callP false s3 [[none, none, none, none, none, none, none, none, none, none, none, none, none], [none], [none], [none]] [v102, v104, (fr 7), (fr 9)] H) ⟨fun v107 H =>
 q' (aextract v107 0) H ⟨fun v108 H =>
 q' (aextract v107 1) H ⟨fun v109 H =>
 w' (astoreR (some 13) (fr 4) v108 H) ⟨fun _ H =>
 e' [(4, fr 4), (5, v109)] H⟩⟩⟩⟩⟩⟩⟩)
@[simp] def body (s0 s1 s2 s3 : SpecP) (fr : AFr) (H : AHeap) : ARes :=
  s' (r0 fr H) ⟨fun fr H =>
 s' (r1 fr H) ⟨fun fr H =>
 s' (r2 fr H) ⟨fun fr H =>
 s' (s' (r3 fr H) ⟨fun fr H =>
  aexit 0 (s' (r4 fr H) ⟨fun fr H =>
 c' (fr 30)
 ⟨s' (r5 s0 fr H) ⟨fun fr H =>
 some (.ret, fr, H)⟩⟩
 ⟨s' (s' (r6 fr H) ⟨fun fr H =>
 c' (fr 36)
 ⟨some (.normal, fr, H)⟩
 ⟨r7 fr H⟩⟩) ⟨fun fr H =>
 c' (fr 36)
 ⟨s' (r8 s1 fr H) ⟨fun fr H =>
 some (.ret, fr, H)⟩⟩
 ⟨s' (r9 fr H) ⟨fun fr H =>
 c' (fr 46)
 ⟨s' (r10 s1 fr H) ⟨fun fr H =>
 some (.ret, fr, H)⟩⟩
 ⟨s' (s' (r11 fr H) ⟨fun fr H =>
 c' (fr 54)
 ⟨some (.normal, fr, H)⟩
 ⟨s' (r12 fr H) ⟨fun fr H =>
 c' (fr 54)
 ⟨some (.normal, fr, H)⟩
 ⟨r13 fr H⟩⟩⟩⟩) ⟨fun fr H =>
 c' (fr 54)
 ⟨s' (r14 s2 fr H) ⟨fun fr H =>
 some (.ret, fr, H)⟩⟩
 ⟨s' (r15 fr H) ⟨fun fr H =>
 c' (fr 68)
 ⟨s' (r16 s1 fr H) ⟨fun fr H =>
 some (.ret, fr, H)⟩⟩
 ⟨s' (r17 fr H) ⟨fun fr H =>
 c' (fr 76)
 ⟨s' (r18 s1 fr H) ⟨fun fr H =>
 some (.ret, fr, H)⟩⟩
 ⟨s' (r19 fr H) ⟨fun fr H =>
 c' (fr 85)
 ⟨s' (r20 s1 fr H) ⟨fun fr H =>
 some (.ret, fr, H)⟩⟩
 ⟨s' (r21 fr H) ⟨fun fr H =>
 c' (fr 93)
 ⟨s' (r22 s1 fr H) ⟨fun fr H =>
 some (.ret, fr, H)⟩⟩
 ⟨some (.normal, fr, H)⟩⟩⟩⟩⟩⟩⟩⟩⟩⟩⟩⟩⟩⟩⟩⟩)⟩) ⟨fun fr H =>
 s' (r23 s3 fr H) ⟨fun fr H =>
 some (.ret, fr, H)⟩⟩⟩⟩⟩
@[simp] def res (fr : AFr) (H : AHeap) : Option (List AV) := res2 (aloadR (some (some 13)) (fr 4) H) (res2 (some (fr 5)) (some []))
end core_reckons
def core_reckons (a0 a1 : AV) : Option AV := closeUpR (some [[none, none, none, none, none, none, none, none, none, none, none, none, none], [none]]) (afinR core_reckons.res (core_reckons.body core_flags.spec core_add.spec core_shift.spec core_alu.spec (args0 [a0, a1]) AHeap.empty))
def core_reckons.spec : List AV → Option AV
  | [a0, a1] => core_reckons a0 a1
  | _ => none
namespace core_Step
def C (s0 : SpecM) (s1 s2 : SpecP) (s3 : SpecM) (s4 s5 : SpecP) : Tab := ((((((Tab.none.add 90 (.ref [false, false] s0)).add 21 (.pure false s1)).add 91 (.pure false s2)).add 92 (.ref [true, true, false] s3)).add 93 (.pure false s4)).add 15 (.pure false s5))
@[simp] def r0 (fr : AFr) (H : AHeap) : ARes :=
 areg (o' (abox T.ty_api_State (fr 0) H) ⟨fun v2 H =>
 o' (aallocR T.ty_api_State (some (.agg [(W32 0#32), (W32 0#32), (W32 0#32), (W32 0#32), (W32 0#32), (W32 0#32), (W32 0#32), (W32 0#32), (W32 0#32), (.bool false), (.bool false), (.bool false), (.bool false)])) H) ⟨fun v4 H =>
 e' [(1, fr 1), (2, v2), (4, v4)] H⟩⟩)
@[simp] def r1 (fr : AFr) (H : AHeap) : ARes :=
 areg (q' (abinR .p .eql (fr 1) .nilp) H ⟨fun v16 H =>
 e' [(1, fr 1), (2, fr 2), (4, fr 4), (16, v16)] H⟩)
@[simp] def r2 (fr : AFr) (H : AHeap) : ARes :=
 areg (q' (Ld' 13 (fr 2) H) H ⟨fun v17 H =>
 w' (astoreR (some 13) (fr 4) v17 H) ⟨fun _ H =>
 e' [(4, fr 4), (5, (.bool false)), (6, (.int .i64 1))] H⟩⟩)
@[simp] def r3 (s0 : SpecM) (fr : AFr) (H : AHeap) : ARes :=
 areg (q' (fa' 8 (fr 2)) H ⟨fun v20 H =>
 q' (ld' v20 H) H ⟨fun v21 H =>
 o' (callM [false, false] s0 [[none], [none]] [(fr 1), v21] H) ⟨fun v22 H =>
 q' (aextract v22 0) H ⟨fun v23 H =>
 q' (aextract v22 1) H ⟨fun v24 H =>
 e' [(1, fr 1), (2, fr 2), (4, fr 4), (7, v23), (8, v24)] H⟩⟩⟩⟩⟩)
@[simp] def r4 (fr : AFr) (H : AHeap) : ARes :=
 areg (q' (bn' .neq (fr 8) (.int .i64 0)) H ⟨fun v26 H =>
 e' [(1, fr 1), (2, fr 2), (4, fr 4), (7, fr 7), (8, fr 8), (26, v26)] H⟩)
@[simp] def r5 (fr : AFr) (H : AHeap) : ARes :=
 areg (q' (Ld' 13 (fr 2) H) H ⟨fun v27 H =>
 w' (astoreR (some 13) (fr 4) v27 H) ⟨fun _ H =>
 e' [(4, fr 4), (5, (.bool false)), (6, (fr 8))] H⟩⟩)
@[simp] def r6 (s1 : SpecP) (fr : AFr) (H : AHeap) : ARes :=
 areg (o' (callP false s1 [[none]] [(fr 7)] H) ⟨fun v31 H =>
 q' (aextract v31 0) H ⟨fun v32 H =>
 q' (aextract v31 1) H ⟨fun v33 H =>
 o' (aallocR T.ty_api_Ins (some (.agg [(.int .i64 0), (.int .i64 0), (.int .i64 0), (.int .i64 0), (.int .i64 0)])) H) ⟨fun v9 H =>
 w' (astoreR (some 5) v9 v32 H) ⟨fun _ H =>
 e' [(1, fr 1), (2, fr 2), (4, fr 4), (8, v33), (9, v9)] H⟩⟩⟩⟩⟩)
@[simp] def r7 (fr : AFr) (H : AHeap) : ARes :=
 areg (q' (bn' .neq (fr 8) (.int .i64 0)) H ⟨fun v35 H =>
 e' [(1, fr 1), (2, fr 2), (4, fr 4), (8, fr 8), (9, fr 9), (35, v35)] H⟩)
@[simp] def r8 (fr : AFr) (H : AHeap) : ARes :=
 areg (q' (Ld' 13 (fr 2) H) H ⟨fun v36 H =>
 w' (astoreR (some 13) (fr 4) v36 H) ⟨fun _ H =>
 e' [(4, fr 4), (5, (.bool false)), (6, (fr 8))] H⟩⟩)
@[simp] def r9 (fr : AFr) (H : AHeap) : ARes :=
 areg (q' (Ld' 13 (fr 2) H) H ⟨fun v38 H =>
 o' (aallocR T.ty_api_State (some (.agg [(W32 0#32), (W32 0#32), (W32 0#32), (W32 0#32), (W32 0#32), (W32 0#32), (W32 0#32), (W32 0#32), (W32 0#32), (.bool false), (.bool false), (.bool false), (.bool false)])) H) ⟨fun v10 H =>
 w' (astoreR (some 13) v10 v38 H) ⟨fun _ H =>
 e' [(1, fr 1), (2, fr 2), (4, fr 4), (9, fr 9), (10, v10)] H⟩⟩⟩)
@[simp] def r10 (fr : AFr) (H : AHeap) : ARes :=
 areg (q' (fa' 8 (fr 2)) H ⟨fun v39 H =>
 q' (ld' v39 H) H ⟨fun v40 H =>
 q' (bn' .add v40 (W32 2#32)) H ⟨fun v41 H =>
 e' [(1, fr 1), (2, fr 2), (4, fr 4), (9, fr 9), (10, fr 10), (11, v41)] H⟩⟩⟩)
@[simp] def r11 (fr : AFr) (H : AHeap) : ARes :=
 areg (q' (fa' 0 (fr 9)) H ⟨fun v42 H =>
 q' (ld' v42 H) H ⟨fun v43 H =>
 e' [(1, fr 1), (2, fr 2), (4, fr 4), (9, fr 9), (10, fr 10), (11, fr 11), (43, v43)] H⟩⟩)
@[simp] def r17 (fr : AFr) (H : AHeap) : ARes :=
 areg (q' (bn' .eql (fr 43) (.int .i64 20)) H ⟨fun v61 H =>
 e' [(1, fr 1), (2, fr 2), (4, fr 4), (9, fr 9), (10, fr 10), (11, fr 11), (43, fr 43), (60, v61)] H⟩)
@[simp] def r18 (fr : AFr) (H : AHeap) : ARes :=
 areg (q' (Ld' 13 (fr 2) H) H ⟨fun v62 H =>
 w' (astoreR (some 13) (fr 4) v62 H) ⟨fun _ H =>
 e' [(4, fr 4), (5, (.bool true)), (6, (.int .i64 0))] H⟩⟩)
@[simp] def r19 (fr : AFr) (H : AHeap) : ARes :=
 areg (q' (bn' .eql (fr 43) (.int .i64 19)) H ⟨fun v64 H =>
 e' [(1, fr 1), (2, fr 2), (4, fr 4), (9, fr 9), (10, fr 10), (11, fr 11), (43, fr 43), (63, v64)] H⟩)
@[simp] def r20 (fr : AFr) (H : AHeap) : ARes :=
 areg (q' (bn' .eql (fr 43) (.int .i64 18)) H ⟨fun v66 H =>
 e' [(1, fr 1), (2, fr 2), (4, fr 4), (9, fr 9), (10, fr 10), (11, fr 11), (43, fr 43), (65, v66)] H⟩)
@[simp] def r21 (s2 : SpecP) (fr : AFr) (H : AHeap) : ARes :=
 areg (q' (fa' 1 (fr 9)) H ⟨fun v67 H =>
 q' (ld' v67 H) H ⟨fun v68 H =>
 q' (Ld' 13 (fr 2) H) H ⟨fun v69 H =>
 o' (callP false s2 [[none], [none, none, none, none, none, none, none, none, none, none, none, none, none]] [v68, v69] H) ⟨fun v70 H =>
 e' [(2, fr 2), (4, fr 4), (9, fr 9), (10, fr 10), (11, fr 11), (70, v70)] H⟩⟩⟩⟩)
@[simp] def r22 (fr : AFr) (H : AHeap) : ARes :=
 areg (q' (fa' 8 (fr 2)) H ⟨fun v71 H =>
 q' (ld' v71 H) H ⟨fun v72 H =>
 q' (bn' .add v72 (W32 4#32)) H ⟨fun v73 H =>
 q' (fa' 4 (fr 9)) H ⟨fun v74 H =>
 q' (ld' v74 H) H ⟨fun v75 H =>
 q' (aconvR (some .u32) v75) H ⟨fun v76 H =>
 q' (bn' .mul (W32 2#32) v76) H ⟨fun v77 H =>
 q' (bn' .add v73 v77) H ⟨fun v78 H =>
 e' [(4, fr 4), (10, fr 10), (11, v78)] H⟩⟩⟩⟩⟩⟩⟩⟩)
@[simp] def r23 (fr : AFr) (H : AHeap) : ARes :=
 areg (q' (bn' .eql (fr 43) (.int .i64 17)) H ⟨fun v80 H =>
 e' [(1, fr 1), (2, fr 2), (4, fr 4), (9, fr 9), (10, fr 10), (11, fr 11), (43, fr 43), (79, v80)] H⟩)
@[simp] def r24 (fr : AFr) (H : AHeap) : ARes :=
 areg (q' (fa' 8 (fr 2)) H ⟨fun v81 H =>
 q' (ld' v81 H) H ⟨fun v82 H =>
 q' (bn' .add v82 (W32 4#32)) H ⟨fun v83 H =>
 q' (fa' 4 (fr 9)) H ⟨fun v84 H =>
 q' (ld' v84 H) H ⟨fun v85 H =>
 q' (aconvR (some .u32) v85) H ⟨fun v86 H =>
 q' (bn' .mul (W32 2#32) v86) H ⟨fun v87 H =>
 q' (bn' .add v83 v87) H ⟨fun v88 H =>
 e' [(4, fr 4), (10, fr 10), (11, v88)] H⟩⟩⟩⟩⟩⟩⟩⟩)
@[simp] def r25 (fr : AFr) (H : AHeap) : ARes :=
 areg (q' (bn' .eql (fr 43) (.int .i64 12)) H ⟨fun v90 H =>
 e' [(1, fr 1), (2, fr 2), (4, fr 4), (9, fr 9), (10, fr 10), (11, fr 11), (43, fr 43), (89, v90)] H⟩)
@[simp] def r26 (fr : AFr) (H : AHeap) : ARes :=
 areg (q' (bn' .eql (fr 43) (.int .i64 13)) H ⟨fun v91 H =>
 e' [(1, fr 1), (2, fr 2), (4, fr 4), (9, fr 9), (10, fr 10), (11, fr 11), (43, fr 43), (89, v91)] H⟩)
@[simp] def r27 (fr : AFr) (H : AHeap) : ARes :=
 areg (q' (bn' .eql (fr 43) (.int .i64 14)) H ⟨fun v92 H =>
 e' [(1, fr 1), (2, fr 2), (4, fr 4), (9, fr 9), (10, fr 10), (11, fr 11), (43, fr 43), (89, v92)] H⟩)
@[simp] def r28 (fr : AFr) (H : AHeap) : ARes :=
 areg (q' (bn' .eql (fr 43) (.int .i64 15)) H ⟨fun v93 H =>
 e' [(1, fr 1), (2, fr 2), (4, fr 4), (9, fr 9), (10, fr 10), (11, fr 11), (43, fr 43), (89, v93)] H⟩)
@[simp] def r29 (fr : AFr) (H : AHeap) : ARes :=
 areg (q' (bn' .eql (fr 43) (.int .i64 16)) H ⟨fun v94 H =>
 e' [(1, fr 1), (2, fr 2), (4, fr 4), (9, fr 9), (10, fr 10), (11, fr 11), (89, v94)] H⟩)
@[simp] def r30 (s3 : SpecM) (fr : AFr) (H : AHeap) : ARes :=
 areg (q' (Ld' 13 (fr 2) H) H ⟨fun v96 H =>
 q' (Ld' 5 (fr 9) H) H ⟨fun v97 H =>
 o' (callM [true, true, false] s3 [[none, none, none, none, none, none, none, none, none, none, none, none, none], [none, none, none, none, none], [none]] [v96, v97, (fr 1)] H) ⟨fun v99 H =>
 q' (aextract v99 0) H ⟨fun v100 H =>
 q' (aextract v99 1) H ⟨fun v101 H =>
 w' (astoreR (some 13) (fr 10) v100 H) ⟨fun _ H =>
 e' [(2, fr 2), (4, fr 4), (8, v101), (10, fr 10), (11, fr 11)] H⟩⟩⟩⟩⟩⟩)
@[simp] def r31 (fr : AFr) (H : AHeap) : ARes :=
 areg (q' (bn' .neq (fr 8) (.int .i64 0)) H ⟨fun v103 H =>
 e' [(2, fr 2), (4, fr 4), (8, fr 8), (10, fr 10), (11, fr 11), (103, v103)] H⟩)
@[simp] def r32 (fr : AFr) (H : AHeap) : ARes :=
 areg (q' (Ld' 13 (fr 2) H) H ⟨fun v104 H =>
 w' (astoreR (some 13) (fr 4) v104 H) ⟨fun _ H =>
 e' [(4, fr 4), (5, (.bool false)), (6, (fr 8))] H⟩⟩)
@[simp] def r12 (fr : AFr) (H : AHeap) : ARes :=
 areg (e' [(2, fr 2), (4, fr 4), (9, fr 9), (10, fr 10), (11, fr 11)] H)
@[simp] def r13 (s4 : SpecP) (fr : AFr) (H : AHeap) : ARes :=
 areg (q' (Ld' 13 (fr 2) H) H ⟨fun v45 H =>
 q' (Ld' 5 (fr 9) H) H ⟨fun v46 H =>
 o' (callP false s4 [[none, none, none, none, none, none, none, none, none, none, none, none, none], [none, none, none, none, none]] [v45, v46] H) ⟨fun v47 H =>
 q' (aextract v47 0) H ⟨fun v48 H =>
 q' (aextract v47 1) H ⟨fun v49 H =>
 w' (astoreR (some 13) (fr 10) v48 H) ⟨fun _ H =>
 e' [(4, fr 4), (9, fr 9), (10, fr 10), (11, fr 11), (12, v49)] H⟩⟩⟩⟩⟩⟩)
@[simp] def r14 (s5 : SpecP) (fr : AFr) (H : AHeap) : ARes :=
 areg (q' (Ld' 5 (fr 9) H) H ⟨fun v51 H =>
 o' (callP false s5 [[none, none, none, none, none]] [v51] H) ⟨fun v52 H =>
 q' (aextract v52 0) H ⟨fun v53 H =>
 q' (aextract v52 1) H ⟨fun v54 H =>
 e' [(4, fr 4), (10, fr 10), (11, fr 11), (12, fr 12), (13, v53), (14, v54)] H⟩⟩⟩⟩)
@[simp] def r15 (fr : AFr) (H : AHeap) : ARes :=
 areg (e' [(4, fr 4), (10, fr 10), (11, fr 11), (12, fr 12), (13, fr 13), (55, (fr 14))] H)
@[simp] def r16 (fr : AFr) (H : AHeap) : ARes :=
 areg (q' (fa' 0 (fr 10)) H ⟨fun v58 H =>
 q' (aindexAddrR (.arr 8 1) v58 (fr 13)) H ⟨fun v59 H =>
 w' (astoreR (some 1) v59 (fr 12) H) ⟨fun _ H =>
 e' [(4, fr 4), (10, fr 10), (11, fr 11)] H⟩⟩⟩)
@[simp] def r33 (fr : AFr) (H : AHeap) : ARes :=
 areg (q' (fa' 8 (fr 10)) H ⟨fun v107 H =>
 w' (astoreR (some 1) v107 (fr 11) H) ⟨fun _ H =>
 e' [(4, fr 4), (10, fr 10)] H⟩⟩)
@[simp] def r34 (fr : AFr) (H : AHeap) : ARes :=
 areg (q' (Ld' 13 (fr 10) H) H ⟨fun v108 H =>
 w' (astoreR (some 13) (fr 4) v108 H) ⟨fun _ H =>
 e' [(4, fr 4), (5, (.bool false)), (6, (.int .i64 0))] H⟩⟩)
@[simp] def body (s0 : SpecM) (s1 s2 : SpecP) (s3 : SpecM) (s4 s5 : SpecP) (fr : AFr) (H : AHeap) : ARes :=
  s' (r0 fr H) ⟨fun fr H =>
 s' (s' (r1 fr H) ⟨fun fr H =>
 c' (fr 16)
 ⟨s' (r2 fr H) ⟨fun fr H =>
 some (.ret, fr, H)⟩⟩
 ⟨some (.normal, fr, H)⟩⟩) ⟨fun fr H =>
 s' (r3 s0 fr H) ⟨fun fr H =>
 s' (s' (r4 fr H) ⟨fun fr H =>
 c' (fr 26)
 ⟨s' (r5 fr H) ⟨fun fr H =>
 some (.ret, fr, H)⟩⟩
 ⟨some (.normal, fr, H)⟩⟩) ⟨fun fr H =>
 s' (r6 s1 fr H) ⟨fun fr H =>
 s' (s' (r7 fr H) ⟨fun fr H =>
 c' (fr 35)
 ⟨s' (r8 fr H) ⟨fun fr H =>
 some (.ret, fr, H)⟩⟩
 ⟨some (.normal, fr, H)⟩⟩) ⟨fun fr H =>
 s' (r9 fr H) ⟨fun fr H =>
 s' (r10 fr H) ⟨fun fr H =>
 s' (s' (r11 fr H) ⟨fun fr H =>
  aexit 0 (s' (r17 fr H) ⟨fun fr H =>
 c' (fr 60)
 ⟨s' (r18 fr H) ⟨fun fr H =>
 some (.ret, fr, H)⟩⟩
 ⟨s' (r19 fr H) ⟨fun fr H =>
 c' (fr 63)
 ⟨some (.normal, fr, H)⟩
 ⟨s' (r20 fr H) ⟨fun fr H =>
 c' (fr 65)
 ⟨s' (r21 s2 fr H) ⟨fun fr H =>
 c' (fr 70)
 ⟨r22 fr H⟩
 ⟨some (.normal, fr, H)⟩⟩⟩
 ⟨s' (r23 fr H) ⟨fun fr H =>
 c' (fr 79)
 ⟨r24 fr H⟩
 ⟨s' (s' (r25 fr H) ⟨fun fr H =>
 c' (fr 89)
 ⟨some (.normal, fr, H)⟩
 ⟨s' (r26 fr H) ⟨fun fr H =>
 c' (fr 89)
 ⟨some (.normal, fr, H)⟩
 ⟨s' (r27 fr H) ⟨fun fr H =>
 c' (fr 89)
 ⟨some (.normal, fr, H)⟩
 ⟨s' (r28 fr H) ⟨fun fr H =>
 c' (fr 89)
 ⟨some (.normal, fr, H)⟩
 ⟨r29 fr H⟩⟩⟩⟩⟩⟩⟩⟩) ⟨fun fr H =>
 c' (fr 89)
 ⟨s' (r30 s3 fr H) ⟨fun fr H =>
 s' (r31 fr H) ⟨fun fr H =>
 c' (fr 103)
 ⟨s' (r32 fr H) ⟨fun fr H =>
 some (.ret, fr, H)⟩⟩
 ⟨some (.normal, fr, H)⟩⟩⟩⟩
 ⟨s' (r12 fr H) ⟨fun fr H =>
 s' (r13 s4 fr H) ⟨fun fr H =>
 s' (r14 s5 fr H) ⟨fun fr H =>
 s' (r15 fr H) ⟨fun fr H =>
 c' (fr 55)
 ⟨r16 fr H⟩
 ⟨some (.normal, fr, H)⟩⟩⟩⟩⟩⟩⟩⟩⟩⟩⟩⟩⟩⟩⟩)⟩) ⟨fun fr H =>
 s' (r33 fr H) ⟨fun fr H =>
 s' (r34 fr H) ⟨fun fr H =>
 some (.ret, fr, H)⟩⟩⟩⟩⟩⟩⟩⟩⟩⟩⟩
@[simp] def res (fr : AFr) (H : AHeap) : Option (List AV) := res2 (aloadR (some (some 13)) (fr 4) H) (res2 (some (fr 5)) (res2 (some (fr 6)) (some [])))
end core_Step
def core_Step (a0 a1 : AV) (H : AHeap) : Option (AV × AHeap) := forget H (afinR core_Step.res (core_Step.body mem_Mem_Fetch.spec thumb_Take.spec core_holds.spec core_moves.spec core_reckons.spec thumb_Writes.spec (args0 [a0, a1]) H))
def core_Step.spec : List AV → AHeap → Option (AV × AHeap)
  | [a0, a1], H => core_Step a0 a1 H
  | _, _ => none
end
end Go.Abs
