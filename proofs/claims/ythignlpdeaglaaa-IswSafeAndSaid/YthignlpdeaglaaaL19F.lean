/-
  The functions, as they are over abstract values. Printed by gen.py.
-/
import Derived.Test.YthignlpdeaglaaaIrF
import Derived.Test.YthignlpdeaglaaaIxF
import Derived.Test.YthignlpdeaglaaaLoF
set_option linter.unusedVariables false
namespace Go.Abs
noncomputable section
namespace law19_safe
def C (s0 : SpecP) : Tab := (Tab.none.add 55 (.pure false s0))
@[simp] def r0 (fr : AFr) (H : AHeap) : ARes :=
 areg (o' (abox T.ty_api_Code (fr 0) H) ⟨fun v3 H =>
 o' (abox T.ty_3_uint16 (fr 2) H) ⟨fun v5 H =>
 e' [(1, fr 1), (3, v3), (5, v5)] H⟩⟩)
@[simp] def r1 (fr : AFr) (H : AHeap) : ARes :=
 areg (o' (abuildSliceR (some ⟨T.ty_int, 1, 8, [(.int .i64 0)]⟩) 0 [] H) ⟨fun v19 H =>
 e' [(1, fr 1), (3, fr 3), (5, fr 5), (7, v19), (8, (.int .i64 0))] H⟩)
@[simp] def r2 (fr : AFr) (H : AHeap) : ARes :=
 areg (e' [(1, fr 1), (3, fr 3), (5, fr 5), (7, fr 7), (8, fr 8), (9, (.int .i64 0))] H)
@[simp] def r3 (fr : AFr) (H : AHeap) : ARes :=
 areg (q' (bn' .lss (fr 9) (fr 1)) H ⟨fun v22 H =>
 e' [(1, fr 1), (3, fr 3), (5, fr 5), (7, fr 7), (8, fr 8), (9, fr 9), (22, v22)] H⟩)
@[simp] def r5 (fr : AFr) (H : AHeap) : ARes :=
 areg (q' (some (fr 9)) H ⟨fun v25 H1 =>
 q' (aindexAddrR (.arr 3 1) (fr 5) v25) H1 ⟨fun v26 H2 =>
 q' (ld' v26 H2) H2 ⟨fun v27 H3 =>
 q' (aconvR (some .i64) v27) H3 ⟨fun v28 H4 =>
 q' (fa' 0 (fr 3)) H4 ⟨fun v29 H5 =>
 q' (ld' v29 H5) H5 ⟨fun v30 H6 =>
 q' (fa' 1 (fr 3)) H6 ⟨fun v31 H7 =>
 q' (ld' v31 H7) H7 ⟨fun v32 H8 =>
 q' (alenR .sl v32) H8 ⟨fun v33 H9 =>
 q' (bn' .add v30 v33) H9 ⟨fun v34 H10 =>
 q' (bn' .rem v28 v34) H10 ⟨fun v35 H11 =>
 q' (some v35) H11 ⟨fun v10 H12 =>
 e' [(1, fr 1), (3, fr 3), (5, fr 5), (7, fr 7), (8, fr 8), (9, fr 9), (10, v10)] H12⟩⟩⟩⟩⟩⟩⟩⟩⟩⟩⟩⟩)
@[simp] def r6 (fr : AFr) (H : AHeap) : ARes :=
 areg (e' [(1, fr 1), (3, fr 3), (5, fr 5), (7, fr 7), (8, fr 8), (9, fr 9), (10, fr 10), (11, (.bool false))] H)
@[simp] def r7 (fr : AFr) (H : AHeap) : ARes :=
 areg (e' [(1, fr 1), (3, fr 3), (5, fr 5), (7, fr 7), (8, fr 8), (9, fr 9), (10, fr 10), (11, fr 11), (12, (.int .i64 0))] H)
@[simp] def r8 (fr : AFr) (H : AHeap) : ARes :=
 areg (q' (fa' 2 (fr 3)) H ⟨fun v37 H =>
 q' (ld' v37 H) H ⟨fun v38 H =>
 q' (alenR .sl v38) H ⟨fun v39 H =>
 q' (bn' .lss (fr 12) v39) H ⟨fun v40 H =>
 e' [(1, fr 1), (3, fr 3), (5, fr 5), (7, fr 7), (8, fr 8), (9, fr 9), (10, fr 10), (11, fr 11), (12, fr 12), (40, v40)] H⟩⟩⟩⟩)
@[simp] def r10 (fr : AFr) (H : AHeap) : ARes :=
 areg (G' (fr 11) false ⟨fa' 2 (fr 3)⟩ H ⟨fun v45 H =>
 G' (fr 11) false ⟨ld' v45 H⟩ H ⟨fun v46 H =>
 G' (fr 11) false ⟨some (fr 12)⟩ H ⟨fun v47 H =>
 G' (fr 11) false ⟨aindexAddrR (.sl 1) v46 v47⟩ H ⟨fun v48 H =>
 G' (fr 11) false ⟨ld' v48 H⟩ H ⟨fun v49 H =>
 G' (fr 11) false ⟨some (fr 10)⟩ H ⟨fun v50 H =>
 G' (fr 11) false ⟨bn' .eql v49 v50⟩ H ⟨fun v51 H =>
 q' (apick (fr 11) (.bool true) v51) H ⟨fun v52 H =>
 e' [(1, fr 1), (3, fr 3), (5, fr 5), (7, fr 7), (8, fr 8), (9, fr 9), (10, fr 10), (11, v52), (12, fr 12)] H⟩⟩⟩⟩⟩⟩⟩⟩)
@[simp] def r9 (fr : AFr) (H : AHeap) : ARes :=
 areg (q' (bn' .add (fr 12) (.int .i64 1)) H ⟨fun v42 H =>
 e' [(1, fr 1), (3, fr 3), (5, fr 5), (7, fr 7), (8, fr 8), (9, fr 9), (10, fr 10), (11, fr 11), (12, v42)] H⟩)
@[simp] def r11 (fr : AFr) (H : AHeap) : ARes :=
 areg (e' [(1, fr 1), (3, fr 3), (5, fr 5), (7, fr 7), (8, fr 8), (9, fr 9), (10, fr 10), (11, fr 11), (13, (.bool false))] H)
@[simp] def r12 (fr : AFr) (H : AHeap) : ARes :=
 areg (e' [(1, fr 1), (3, fr 3), (5, fr 5), (7, fr 7), (8, fr 8), (9, fr 9), (10, fr 10), (11, fr 11), (13, fr 13), (14, (.int .i64 0))] H)
@[simp] def r13 (fr : AFr) (H : AHeap) : ARes :=
 areg (q' (alenR .sl (fr 7)) H ⟨fun v55 H =>
 q' (bn' .lss (fr 14) v55) H ⟨fun v56 H =>
 e' [(1, fr 1), (3, fr 3), (5, fr 5), (7, fr 7), (8, fr 8), (9, fr 9), (10, fr 10), (11, fr 11), (13, fr 13), (14, fr 14), (56, v56)] H⟩⟩)
@[simp] def r15 (fr : AFr) (H : AHeap) : ARes :=
 areg (G' (fr 13) false ⟨some (fr 7)⟩ H ⟨fun v61 H =>
 G' (fr 13) false ⟨some (fr 14)⟩ H ⟨fun v62 H =>
 G' (fr 13) false ⟨aindexAddrR (.sl 1) v61 v62⟩ H ⟨fun v63 H =>
 G' (fr 13) false ⟨ld' v63 H⟩ H ⟨fun v64 H =>
 G' (fr 13) false ⟨some (fr 10)⟩ H ⟨fun v65 H =>
 G' (fr 13) false ⟨bn' .eql v64 v65⟩ H ⟨fun v66 H =>
 q' (apick (fr 13) (.bool true) v66) H ⟨fun v67 H =>
 e' [(1, fr 1), (3, fr 3), (5, fr 5), (7, fr 7), (8, fr 8), (9, fr 9), (10, fr 10), (11, fr 11), (13, v67), (14, fr 14)] H⟩⟩⟩⟩⟩⟩⟩)
@[simp] def r14 (fr : AFr) (H : AHeap) : ARes :=
 areg (q' (bn' .add (fr 14) (.int .i64 1)) H ⟨fun v58 H =>
 e' [(1, fr 1), (3, fr 3), (5, fr 5), (7, fr 7), (8, fr 8), (9, fr 9), (10, fr 10), (11, fr 11), (13, fr 13), (14, v58)] H⟩)
@[simp] def r16 (fr : AFr) (H : AHeap) : ARes :=
 areg (q' (aun .not (fr 11)) H ⟨fun v69 H =>
 G' v69 true ⟨some (fr 13)⟩ H ⟨fun v71 H =>
 G' v69 true ⟨aun .not v71⟩ H ⟨fun v72 H =>
 q' (apick v69 v72 (.bool false)) H ⟨fun v73 H =>
 e' [(1, fr 1), (3, fr 3), (5, fr 5), (7, fr 7), (8, fr 8), (9, fr 9), (10, fr 10), (73, v73)] H⟩⟩⟩⟩)
@[simp] def r17 (fr : AFr) (H : AHeap) : ARes :=
 areg (q' (bn' .add (fr 8) (.int .i64 1)) H ⟨fun v75 H =>
 e' [(1, fr 1), (3, fr 3), (5, fr 5), (7, fr 7), (8, v75), (9, fr 9), (10, fr 10)] H⟩)
@[simp] def r18 (fr : AFr) (H : AHeap) : ARes :=
 areg (o' (abuildSliceR (some ⟨T.ty_int, 1, 8, [(.int .i64 0)]⟩) 1 [(0, (fr 10))] H) ⟨fun v78 H =>
 o' (aappendR (some ⟨T.ty_int, 1, 8, [(.int .i64 0)]⟩) (fr 7) v78 H) ⟨fun v79 H =>
 e' [(1, fr 1), (3, fr 3), (5, fr 5), (7, v79), (8, fr 8), (9, fr 9)] H⟩⟩)
@[simp] def r4 (fr : AFr) (H : AHeap) : ARes :=
 areg (q' (bn' .add (fr 9) (.int .i64 1)) H ⟨fun v24 H =>
 e' [(1, fr 1), (3, fr 3), (5, fr 5), (7, fr 7), (8, fr 8), (9, v24)] H⟩)
@[simp] def r19 (s0 : SpecP) (fr : AFr) (H : AHeap) : ARes :=
 areg (q' (Ld' 3 (fr 3) H) H ⟨fun v80 H =>
 o' (callP false s0 [[none, some 4, some 1], [some 1]] [v80, (fr 7)] H) ⟨fun v82 H =>
 e' [(1, fr 1), (8, fr 8), (15, v82)] H⟩⟩)
@[simp] def r20 (fr : AFr) (H : AHeap) : ARes :=
 areg (e' [(1, fr 1), (8, fr 8), (15, fr 15), (16, (.int .i64 0))] H)
@[simp] def r21 (fr : AFr) (H : AHeap) : ARes :=
 areg (q' (alenR .sl (fr 15)) H ⟨fun v85 H =>
 q' (bn' .lss (fr 16) v85) H ⟨fun v86 H =>
 e' [(1, fr 1), (8, fr 8), (15, fr 15), (16, fr 16), (86, v86)] H⟩⟩)
@[simp] def r23 (fr : AFr) (H : AHeap) : ARes :=
 areg (e' [(1, fr 1), (8, fr 8), (15, fr 15), (16, fr 16), (17, (.int .i64 0))] H)
@[simp] def r24 (fr : AFr) (H : AHeap) : ARes :=
 areg (e' [(1, fr 1), (8, fr 8), (15, fr 15), (16, fr 16), (17, fr 17), (18, (.int .i64 0))] H)
@[simp] def r25 (fr : AFr) (H : AHeap) : ARes :=
 areg (q' (bn' .leq (fr 18) (fr 1)) H ⟨fun v93 H =>
 e' [(1, fr 1), (8, fr 8), (15, fr 15), (16, fr 16), (17, fr 17), (18, fr 18), (93, v93)] H⟩)
@[simp] def r27 (fr : AFr) (H : AHeap) : ARes :=
 areg (q' (bn' .add (fr 16) (fr 18)) H ⟨fun v99 H =>
 q' (aindexAddrR (.sl 1) (fr 15) v99) H ⟨fun v100 H =>
 q' (ld' v100 H) H ⟨fun v101 H =>
 e' [(1, fr 1), (8, fr 8), (15, fr 15), (16, fr 16), (17, fr 17), (18, fr 18), (101, v101)] H⟩⟩⟩)
@[simp] def r28 (fr : AFr) (H : AHeap) : ARes :=
 areg (q' (bn' .add (fr 17) (.int .i64 1)) H ⟨fun v103 H =>
 e' [(1, fr 1), (8, fr 8), (15, fr 15), (16, fr 16), (17, v103), (18, fr 18)] H⟩)
@[simp] def r26 (fr : AFr) (H : AHeap) : ARes :=
 areg (q' (bn' .add (fr 18) (.int .i64 1)) H ⟨fun v95 H =>
 e' [(1, fr 1), (8, fr 8), (15, fr 15), (16, fr 16), (17, fr 17), (18, v95)] H⟩)
@[simp] def r29 (fr : AFr) (H : AHeap) : ARes :=
 areg (q' (bn' .gtr (fr 17) (fr 8)) H ⟨fun v106 H =>
 e' [(1, fr 1), (8, fr 8), (15, fr 15), (16, fr 16), (106, v106)] H⟩)
@[simp] def r30 (fr : AFr) (H : AHeap) : ARes :=
 areg (e' [(6, (.bool false))] H)
@[simp] def r22 (fr : AFr) (H : AHeap) : ARes :=
 areg (q' (bn' .add (fr 1) (.int .i64 1)) H ⟨fun v89 H =>
 q' (bn' .add (fr 16) v89) H ⟨fun v90 H =>
 e' [(1, fr 1), (8, fr 8), (15, fr 15), (16, v90)] H⟩⟩)
@[simp] def r31 (fr : AFr) (H : AHeap) : ARes :=
 areg (e' [(6, (.bool true))] H)
def l1 (s0 : SpecP) (fr : AFr) (H : AHeap) : ARes :=
  s' (s' (r8 fr H) ⟨fun fr H =>
 c' (fr 40)
 ⟨some (.normal, fr, H)⟩
 ⟨some (.exit 2, fr, H)⟩⟩) ⟨fun fr H =>
 s' (aexit 3 (r10 fr H)) ⟨fun fr H =>
 r9 fr H⟩⟩
def l2 (s0 : SpecP) (fr : AFr) (H : AHeap) : ARes :=
  s' (s' (r13 fr H) ⟨fun fr H =>
 c' (fr 56)
 ⟨some (.normal, fr, H)⟩
 ⟨some (.exit 4, fr, H)⟩⟩) ⟨fun fr H =>
 s' (aexit 5 (r15 fr H)) ⟨fun fr H =>
 r14 fr H⟩⟩
def l0 (s0 : SpecP) (fr : AFr) (H : AHeap) : ARes :=
  s' (s' (r3 fr H) ⟨fun fr H =>
 c' (fr 22)
 ⟨some (.normal, fr, H)⟩
 ⟨some (.exit 0, fr, H)⟩⟩) ⟨fun fr H =>
 s' (aexit 1 (s' (r5 fr H) ⟨fun fr H =>
 s' (r6 fr H) ⟨fun fr H =>
 s' (s' (r7 fr H) ⟨fun fr H =>
  aexit 2 (aloop (l1 s0) fr H)⟩) ⟨fun fr H =>
 s' (r11 fr H) ⟨fun fr H =>
 s' (s' (r12 fr H) ⟨fun fr H =>
  aexit 4 (aloop (l2 s0) fr H)⟩) ⟨fun fr H =>
 s' (s' (r16 fr H) ⟨fun fr H =>
 c' (fr 73)
 ⟨r17 fr H⟩
 ⟨some (.normal, fr, H)⟩⟩) ⟨fun fr H =>
 r18 fr H⟩⟩⟩⟩⟩⟩)) ⟨fun fr H =>
 r4 fr H⟩⟩
def l4 (s0 : SpecP) (fr : AFr) (H : AHeap) : ARes :=
  s' (s' (r25 fr H) ⟨fun fr H =>
 c' (fr 93)
 ⟨some (.normal, fr, H)⟩
 ⟨some (.exit 8, fr, H)⟩⟩) ⟨fun fr H =>
 s' (aexit 9 (s' (r27 fr H) ⟨fun fr H =>
 c' (fr 101)
 ⟨r28 fr H⟩
 ⟨some (.normal, fr, H)⟩⟩)) ⟨fun fr H =>
 r26 fr H⟩⟩
def l3 (s0 : SpecP) (fr : AFr) (H : AHeap) : ARes :=
  s' (s' (r21 fr H) ⟨fun fr H =>
 c' (fr 86)
 ⟨some (.normal, fr, H)⟩
 ⟨some (.exit 6, fr, H)⟩⟩) ⟨fun fr H =>
 s' (aexit 7 (s' (r23 fr H) ⟨fun fr H =>
 s' (s' (r24 fr H) ⟨fun fr H =>
  aexit 8 (aloop (l4 s0) fr H)⟩) ⟨fun fr H =>
 s' (r29 fr H) ⟨fun fr H =>
 c' (fr 106)
 ⟨s' (r30 fr H) ⟨fun fr H =>
 some (.ret, fr, H)⟩⟩
 ⟨some (.normal, fr, H)⟩⟩⟩⟩)) ⟨fun fr H =>
 r22 fr H⟩⟩
@[simp] def body (s0 : SpecP) (fr : AFr) (H : AHeap) : ARes :=
  s' (r0 fr H) ⟨fun fr H =>
 s' (r1 fr H) ⟨fun fr H =>
 s' (s' (r2 fr H) ⟨fun fr H =>
  aexit 0 (aloop (l0 s0) fr H)⟩) ⟨fun fr H =>
 s' (r19 s0 fr H) ⟨fun fr H =>
 s' (s' (r20 fr H) ⟨fun fr H =>
  aexit 6 (aloop (l3 s0) fr H)⟩) ⟨fun fr H =>
 s' (r31 fr H) ⟨fun fr H =>
 some (.ret, fr, H)⟩⟩⟩⟩⟩⟩
@[simp] def res (fr : AFr) (H : AHeap) : Option (List AV) := res2 (some (fr 6)) (some [])
end law19_safe
def law19_safe (a0 a1 a2 : AV) : Option AV := closeUpR (some [[none]]) (afinR law19_safe.res (law19_safe.body ref19_Matter.spec (args0 [a0, a1, a2]) AHeap.empty))
def law19_safe.spec : List AV → Option AV
  | [a0, a1, a2] => law19_safe a0 a1 a2
  | _ => none
namespace law19_lives
def C (s0 s1 : SpecP) : Tab := ((Tab.none.add 26 (.pure false s0)).add 34 (.pure false s1))
@[simp] def r0 (fr : AFr) (H : AHeap) : ARes :=
 areg (e' [] H)
@[simp] def r1 (s0 : SpecP) (fr : AFr) (H : AHeap) : ARes :=
 areg (o' (callP false s0 [[none]] [(.int .i64 1)] H) ⟨fun v4 H =>
 q' (aextract v4 0) H ⟨fun v5 H =>
 q' (aextract v4 1) H ⟨fun v6 H =>
 o' (aallocR T.ty_api_Code (some (.agg [(.int .i64 0), .nils, .nils])) H) ⟨fun v1 H =>
 w' (astoreR (some 3) v1 v5 H) ⟨fun _ H =>
 e' [(1, v1), (2, v6)] H⟩⟩⟩⟩⟩)
@[simp] def r2 (s1 : SpecP) (fr : AFr) (H : AHeap) : ARes :=
 areg (q' (bn' .eql (fr 2) (.int .i64 0)) H ⟨fun v8 H =>
 G' v8 true ⟨fa' 0 (fr 1)⟩ H ⟨fun v10 H =>
 G' v8 true ⟨ld' v10 H⟩ H ⟨fun v11 H =>
 G' v8 true ⟨bn' .eql v11 (.int .i64 4)⟩ H ⟨fun v12 H =>
 q' (apick v8 v12 (.bool false)) H ⟨fun v13 H =>
 G' v13 true ⟨fa' 1 (fr 1)⟩ H ⟨fun v15 H =>
 G' v13 true ⟨ld' v15 H⟩ H ⟨fun v16 H =>
 G' v13 true ⟨alenR .sl v16⟩ H ⟨fun v17 H =>
 G' v13 true ⟨bn' .eql v17 (.int .i64 9)⟩ H ⟨fun v18 H =>
 q' (apick v13 v18 (.bool false)) H ⟨fun v19 H =>
 G' v19 true ⟨fa' 2 (fr 1)⟩ H ⟨fun v21 H =>
 G' v19 true ⟨ld' v21 H⟩ H ⟨fun v22 H =>
 G' v19 true ⟨alenR .sl v22⟩ H ⟨fun v23 H =>
 G' v19 true ⟨bn' .eql v23 (.int .i64 2)⟩ H ⟨fun v24 H =>
 q' (apick v19 v24 (.bool false)) H ⟨fun v25 H =>
 G' v25 true ⟨Ld' 3 (fr 1) H⟩ H ⟨fun v27 H =>
 o' (g' (gw v25 true) ⟨callP false s1 [[none, some 4, some 1]] [v27] H⟩ H) ⟨fun v28 H =>
 G' v25 true ⟨bn' .eql v28 (.int .i64 1)⟩ H ⟨fun v29 H =>
 q' (apick v25 v29 (.bool false)) H ⟨fun v30 H =>
 e' [(0, v30)] H⟩⟩⟩⟩⟩⟩⟩⟩⟩⟩⟩⟩⟩⟩⟩⟩⟩⟩⟩)
@[simp] def body (s0 s1 : SpecP) (fr : AFr) (H : AHeap) : ARes :=
  s' (r0 fr H) ⟨fun fr H =>
 s' (r1 s0 fr H) ⟨fun fr H =>
 s' (r2 s1 fr H) ⟨fun fr H =>
 some (.ret, fr, H)⟩⟩⟩
@[simp] def res (fr : AFr) (H : AHeap) : Option (List AV) := res2 (some (fr 0)) (some [])
end law19_lives
def law19_lives : Option AV := closeUpR (some [[none]]) (afinR law19_lives.res (law19_lives.body isw_And.spec isw_Randoms.spec (args0 []) AHeap.empty))
def law19_lives.spec : List AV → Option AV
  | [] => law19_lives
  | _ => none
namespace law19_IswSafeAnd
def C (s0 s1 s2 s3 s4 : SpecP) : Tab := (((((Tab.none.add 26 (.pure false s0)).add 27 (.pure false s1)).add 22 (.pure false s2)).add 28 (.pure false s3)).add 29 (.pure false s4))
@[simp] def r0 (fr : AFr) (H : AHeap) : ARes :=
 areg (o' (abox T.ty_3_uint16 (fr 1) H) ⟨fun v3 H =>
 e' [(0, fr 0), (3, v3)] H⟩)
@[simp] def r1 (fr : AFr) (H : AHeap) : ARes :=
 areg (e' [(0, fr 0), (3, fr 3), (5, (.int .i64 1))] H)
@[simp] def r2 (fr : AFr) (H : AHeap) : ARes :=
 areg (e' [(3, fr 3), (5, fr 5), (8, (fr 0))] H)
@[simp] def r3 (fr : AFr) (H : AHeap) : ARes :=
 areg (e' [(3, fr 3), (5, (.int .i64 2))] H)
@[simp] def r4 (s0 : SpecP) (fr : AFr) (H : AHeap) : ARes :=
 areg (o' (callP false s0 [[none]] [(fr 5)] H) ⟨fun v11 H =>
 q' (aextract v11 0) H ⟨fun v12 H =>
 q' (aextract v11 1) H ⟨fun v13 H =>
 o' (aallocR T.ty_api_Code (some (.agg [(.int .i64 0), .nils, .nils])) H) ⟨fun v6 H =>
 w' (astoreR (some 3) v6 v12 H) ⟨fun _ H =>
 e' [(3, fr 3), (5, fr 5), (6, v6), (7, v13)] H⟩⟩⟩⟩⟩)
@[simp] def r5 (s1 s2 s3 s4 : SpecP) (fr : AFr) (H : AHeap) : ARes :=
 areg (q' (bn' .eql (fr 7) (.int .i64 0)) H ⟨fun v15 H =>
 G' v15 true ⟨Ld' 3 (fr 6) H⟩ H ⟨fun v17 H =>
 o' (g' (gw v15 true) ⟨callP false s1 [[none, some 4, some 1]] [v17] H⟩ H) ⟨fun v18 H =>
 q' (apick v15 v18 (.bool false)) H ⟨fun v19 H =>
 G' v19 true ⟨fa' 0 (fr 6)⟩ H ⟨fun v21 H =>
 G' v19 true ⟨ld' v21 H⟩ H ⟨fun v22 H =>
 G' v19 true ⟨some (fr 5)⟩ H ⟨fun v23 H =>
 G' v19 true ⟨bn' .mul (.int .i64 2) v23⟩ H ⟨fun v24 H =>
 G' v19 true ⟨bn' .add v24 (.int .i64 2)⟩ H ⟨fun v25 H =>
 G' v19 true ⟨bn' .eql v22 v25⟩ H ⟨fun v26 H =>
 q' (apick v19 v26 (.bool false)) H ⟨fun v27 H =>
 G' v27 true ⟨fa' 1 (fr 6)⟩ H ⟨fun v29 H =>
 G' v27 true ⟨ld' v29 H⟩ H ⟨fun v30 H =>
 G' v27 true ⟨alenR .sl v30⟩ H ⟨fun v31 H =>
 G' v27 true ⟨bn' .lss v31 (.int .i64 60)⟩ H ⟨fun v32 H =>
 q' (apick v27 v32 (.bool false)) H ⟨fun v33 H =>
 G' v33 true ⟨Ld' 3 (fr 6) H⟩ H ⟨fun v35 H =>
 o' (g' (gw v33 true) ⟨callP false s2 [[none, some 4, some 1]] [v35] H⟩ H) ⟨fun v36 H =>
 G' v33 true ⟨some (fr 5)⟩ H ⟨fun v37 H =>
 G' v33 true ⟨some (fr 5)⟩ H ⟨fun v38 H =>
 G' v33 true ⟨bn' .add v38 (.int .i64 1)⟩ H ⟨fun v39 H =>
 G' v33 true ⟨bn' .mul v37 v39⟩ H ⟨fun v40 H =>
 G' v33 true ⟨bn' .quo v40 (.int .i64 2)⟩ H ⟨fun v41 H =>
 G' v33 true ⟨bn' .eql v36 v41⟩ H ⟨fun v42 H =>
 q' (apick v33 v42 (.bool false)) H ⟨fun v43 H =>
 G' v43 true ⟨Ld' 3 (fr 6) H⟩ H ⟨fun v45 H =>
 G' v43 true ⟨some (fr 5)⟩ H ⟨fun v46 H =>
 G' v43 true ⟨Ld' 3 (fr 3) H⟩ H ⟨fun v47 H =>
 o' (g' (gw v43 true) ⟨callP false s3 [[none, some 4, some 1], [none], [none, none, none]] [v45, v46, v47] H⟩ H) ⟨fun v48 H =>
 q' (apick v43 v48 (.bool false)) H ⟨fun v49 H =>
 o' (g' (gw v49 true) ⟨callP false s4 [] [] H⟩ H) ⟨fun v51 H =>
 q' (apick v49 v51 (.bool false)) H ⟨fun v52 H =>
 e' [(4, v52)] H⟩⟩⟩⟩⟩⟩⟩⟩⟩⟩⟩⟩⟩⟩⟩⟩⟩⟩⟩⟩⟩⟩⟩⟩⟩⟩⟩⟩⟩⟩⟩⟩)
@[simp] def body (s0 s1 s2 s3 s4 : SpecP) (fr : AFr) (H : AHeap) : ARes :=
  s' (r0 fr H) ⟨fun fr H =>
 s' (r1 fr H) ⟨fun fr H =>
 s' (s' (r2 fr H) ⟨fun fr H =>
 c' (fr 8)
 ⟨r3 fr H⟩
 ⟨some (.normal, fr, H)⟩⟩) ⟨fun fr H =>
 s' (r4 s0 fr H) ⟨fun fr H =>
 s' (r5 s1 s2 s3 s4 fr H) ⟨fun fr H =>
 some (.ret, fr, H)⟩⟩⟩⟩⟩
@[simp] def res (fr : AFr) (H : AHeap) : Option (List AV) := res2 (some (fr 4)) (some [])
end law19_IswSafeAnd
def law19_IswSafeAnd (a0 a1 : AV) : Option AV := closeUpR (some [[none]]) (afinR law19_IswSafeAnd.res (law19_IswSafeAnd.body isw_And.spec ref19_Can.spec ref19_Randoms.spec law19_safe.spec law19_lives.spec (args0 [a0, a1]) AHeap.empty))
def law19_IswSafeAnd.spec : List AV → Option AV
  | [a0, a1] => law19_IswSafeAnd a0 a1
  | _ => none
namespace law19_IswSafeFresh
def C (s0 s1 s2 s3 s4 : SpecP) : Tab := (((((Tab.none.add 30 (.pure false s0)).add 27 (.pure false s1)).add 22 (.pure false s2)).add 28 (.pure false s3)).add 29 (.pure false s4))
@[simp] def r0 (fr : AFr) (H : AHeap) : ARes :=
 areg (o' (abox T.ty_3_uint16 (fr 1) H) ⟨fun v3 H =>
 e' [(0, fr 0), (3, v3)] H⟩)
@[simp] def r1 (fr : AFr) (H : AHeap) : ARes :=
 areg (q' (bn' .rem (fr 0) (W8 3#8)) H ⟨fun v9 H =>
 q' (aconvR (some .i64) v9) H ⟨fun v10 H =>
 q' (bn' .add (.int .i64 1) v10) H ⟨fun v11 H =>
 e' [(3, fr 3), (5, v11)] H⟩⟩⟩)
@[simp] def r2 (s0 : SpecP) (fr : AFr) (H : AHeap) : ARes :=
 areg (o' (callP false s0 [[none]] [(fr 5)] H) ⟨fun v14 H =>
 q' (aextract v14 0) H ⟨fun v15 H =>
 q' (aextract v14 1) H ⟨fun v16 H =>
 o' (aallocR T.ty_api_Code (some (.agg [(.int .i64 0), .nils, .nils])) H) ⟨fun v6 H =>
 w' (astoreR (some 3) v6 v15 H) ⟨fun _ H =>
 e' [(3, fr 3), (5, fr 5), (6, v6), (7, v16)] H⟩⟩⟩⟩⟩)
@[simp] def r3 (s1 s2 s3 s4 : SpecP) (fr : AFr) (H : AHeap) : ARes :=
 areg (q' (bn' .eql (fr 7) (.int .i64 0)) H ⟨fun v18 H =>
 G' v18 true ⟨Ld' 3 (fr 6) H⟩ H ⟨fun v20 H =>
 o' (g' (gw v18 true) ⟨callP false s1 [[none, some 4, some 1]] [v20] H⟩ H) ⟨fun v21 H =>
 q' (apick v18 v21 (.bool false)) H ⟨fun v22 H =>
 G' v22 true ⟨fa' 0 (fr 6)⟩ H ⟨fun v24 H =>
 G' v22 true ⟨ld' v24 H⟩ H ⟨fun v25 H =>
 G' v22 true ⟨some (fr 5)⟩ H ⟨fun v26 H =>
 G' v22 true ⟨bn' .add v26 (.int .i64 1)⟩ H ⟨fun v27 H =>
 G' v22 true ⟨bn' .eql v25 v27⟩ H ⟨fun v28 H =>
 q' (apick v22 v28 (.bool false)) H ⟨fun v29 H =>
 G' v29 true ⟨fa' 1 (fr 6)⟩ H ⟨fun v31 H =>
 G' v29 true ⟨ld' v31 H⟩ H ⟨fun v32 H =>
 G' v29 true ⟨alenR .sl v32⟩ H ⟨fun v33 H =>
 G' v29 true ⟨bn' .lss v33 (.int .i64 60)⟩ H ⟨fun v34 H =>
 q' (apick v29 v34 (.bool false)) H ⟨fun v35 H =>
 G' v35 true ⟨Ld' 3 (fr 6) H⟩ H ⟨fun v37 H =>
 o' (g' (gw v35 true) ⟨callP false s2 [[none, some 4, some 1]] [v37] H⟩ H) ⟨fun v38 H =>
 G' v35 true ⟨some (fr 5)⟩ H ⟨fun v39 H =>
 G' v35 true ⟨some (fr 5)⟩ H ⟨fun v40 H =>
 G' v35 true ⟨bn' .add v40 (.int .i64 1)⟩ H ⟨fun v41 H =>
 G' v35 true ⟨bn' .mul v39 v41⟩ H ⟨fun v42 H =>
 G' v35 true ⟨bn' .quo v42 (.int .i64 2)⟩ H ⟨fun v43 H =>
 G' v35 true ⟨bn' .eql v38 v43⟩ H ⟨fun v44 H =>
 q' (apick v35 v44 (.bool false)) H ⟨fun v45 H =>
 G' v45 true ⟨Ld' 3 (fr 6) H⟩ H ⟨fun v47 H =>
 G' v45 true ⟨some (fr 5)⟩ H ⟨fun v48 H =>
 G' v45 true ⟨Ld' 3 (fr 3) H⟩ H ⟨fun v49 H =>
 o' (g' (gw v45 true) ⟨callP false s3 [[none, some 4, some 1], [none], [none, none, none]] [v47, v48, v49] H⟩ H) ⟨fun v50 H =>
 q' (apick v45 v50 (.bool false)) H ⟨fun v51 H =>
 o' (g' (gw v51 true) ⟨callP false s4 [] [] H⟩ H) ⟨fun v53 H =>
 q' (apick v51 v53 (.bool false)) H ⟨fun v54 H =>
 e' [(4, v54)] H⟩⟩⟩⟩⟩⟩⟩⟩⟩⟩⟩⟩⟩⟩⟩⟩⟩⟩⟩⟩⟩⟩⟩⟩⟩⟩⟩⟩⟩⟩⟩)
@[simp] def body (s0 s1 s2 s3 s4 : SpecP) (fr : AFr) (H : AHeap) : ARes :=
  s' (r0 fr H) ⟨fun fr H =>
 s' (r1 fr H) ⟨fun fr H =>
 s' (r2 s0 fr H) ⟨fun fr H =>
 s' (r3 s1 s2 s3 s4 fr H) ⟨fun fr H =>
 some (.ret, fr, H)⟩⟩⟩⟩
@[simp] def res (fr : AFr) (H : AHeap) : Option (List AV) := res2 (some (fr 4)) (some [])
end law19_IswSafeFresh
def law19_IswSafeFresh (a0 a1 : AV) : Option AV := closeUpR (some [[none]]) (afinR law19_IswSafeFresh.res (law19_IswSafeFresh.body isw_Refresh.spec ref19_Can.spec ref19_Randoms.spec law19_safe.spec law19_lives.spec (args0 [a0, a1]) AHeap.empty))
def law19_IswSafeFresh.spec : List AV → Option AV
  | [a0, a1] => law19_IswSafeFresh a0 a1
  | _ => none
end
end Go.Abs
