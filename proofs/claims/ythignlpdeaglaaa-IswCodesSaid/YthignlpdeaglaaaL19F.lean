/-
  The functions, as they are over abstract values. Printed by gen.py.
-/
import Derived.Test.YthignlpdeaglaaaIrF
import Derived.Test.YthignlpdeaglaaaIxF
import Derived.Test.YthignlpdeaglaaaLoF
set_option linter.unusedVariables false
namespace Go.Abs
noncomputable section
namespace law19_safe
@[simp] def r0 (fr : AFr) (H : AHeap) : ARes :=
 areg (o' (abox T.ty_api_Code (fr 0) H) ⟨fun v3 H =>
 o' (abox T.ty_3_uint16 (fr 2) H) ⟨fun v5 H =>
 e' [(1, fr 1), (3, v3), (5, v5)] H⟩⟩)
@[simp] def r1 (fr : AFr) (H : AHeap) : ARes :=
 areg (o' (abuildSliceR (some ⟨T.ty_int, 1, 8, [(.int .i64 0)]⟩) 0 [] H) ⟨fun v19 H =>
 e' [(1, fr 1), (3, fr 3), (5, fr 5), (7, v19), (8, (.int .i64 0))] H⟩)
@[simp] def r2 (fr : AFr) (H : AHeap) : ARes :=
 areg (e' [(1, fr 1), (3, fr 3), (5, fr 5), (7, fr 7), (8, fr 8), (9, (.int .i64 0))] H)
@[simp] def r3 (fr : AFr) (H : AHeap) : ARes :=
 areg (q' (bn' .lss (fr 9) (fr 1)) H ⟨fun v22 H =>
 e' [(1, fr 1), (3, fr 3), (5, fr 5), (7, fr 7), (8, fr 8), (9, fr 9), (22, v22)] H⟩)
@[simp] def r5 (fr : AFr) (H : AHeap) : ARes :=
 areg (q' (some (fr 9)) H ⟨fun v25 H1 =>
 q' (aindexAddrR (.arr 3 1) (fr 5) v25) H1 ⟨fun v26 H2 =>
 q' (ld' v26 H2) H2 ⟨fun v27 H3 =>
 q' (aconvR (some .i64) v27) H3 ⟨fun v28 H4 =>
 q' (fa' 0 (fr 3)) H4 ⟨fun v29 H5 =>
 q' (ld' v29 H5) H5 ⟨fun v30 H6 =>
 q' (fa' 1 (fr 3)) H6 ⟨fun v31 H7 =>
 q' (ld' v31 H7) H7 ⟨fun v32 H8 =>
 q' (alenR .sl v32) H8 ⟨fun v33 H9 =>
 q' (bn' .add v30 v33) H9 ⟨fun v34 H10 =>
 q' (bn' .rem v28 v34) H10 ⟨fun v35 H11 =>
 q' (some v35) H11 ⟨fun v10 H12 =>
 e' [(1, fr 1), (3, fr 3), (5, fr 5), (7, fr 7), (8, fr 8), (9, fr 9), (10, v10)] H12⟩⟩⟩⟩⟩⟩⟩⟩⟩⟩⟩⟩)
@[simp] def r6 (fr : AFr) (H : AHeap) : ARes :=
 areg (e' [(1, fr 1), (3, fr 3), (5, fr 5), (7, fr 7), (8, fr 8), (9, fr 9), (10, fr 10), (11, (.bool false))] H)
@[simp] def r7 (fr : AFr) (H : AHeap) : ARes :=
 areg (e' [(1, fr 1), (3, fr 3), (5, fr 5), (7, fr 7), (8, fr 8), (9, fr 9), (10, fr 10), (11, fr 11), (12, (.int .i64 0))] H)
@[simp] def r8 (fr : AFr) (H : AHeap) : ARes :=
 areg (q' (fa' 2 (fr 3)) H ⟨fun v37 H =>
 q' (ld' v37 H) H ⟨fun v38 H =>
 q' (alenR .sl v38) H ⟨fun v39 H =>
 q' (bn' .lss (fr 12) v39) H ⟨fun v40 H =>
 e' [(1, fr 1), (3, fr 3), (5, fr 5), (7, fr 7), (8, fr 8), (9, fr 9), (10, fr 10), (11, fr 11), (12, fr 12), (40, v40)] H⟩⟩⟩⟩)
@[simp] def r10 (fr : AFr) (H : AHeap) : ARes :=
 areg (G' (fr 11) false ⟨fa' 2 (fr 3)⟩ H ⟨fun v45 H =>
 G' (fr 11) false ⟨ld' v45 H⟩ H ⟨fun v46 H =>
 G' (fr 11) false ⟨some (fr 12)⟩ H ⟨fun v47 H =>
 G' (fr 11) false ⟨aindexAddrR (.sl 1) v46 v47⟩ H ⟨fun v48 H =>
 G' (fr 11) false ⟨ld' v48 H⟩ H ⟨fun v49 H =>
 G' (fr 11) false ⟨some (fr 10)⟩ H ⟨fun v50 H =>
 G' (fr 11) false ⟨bn' .eql v49 v50⟩ H ⟨fun v51 H =>
 q' (apick (fr 11) (.bool true) v51) H ⟨fun v52 H =>
 e' [(1, fr 1), (3, fr 3), (5, fr 5), (7, fr 7), (8, fr 8), (9, fr 9), (10, fr 10), (11, v52), (12, fr 12)] H⟩⟩⟩⟩⟩⟩⟩⟩)
@[simp] def r9 (fr : AFr) (H : AHeap) : ARes :=
 areg (q' (bn' .add (fr 12) (.int .i64 1)) H ⟨fun v42 H =>
 e' [(1, fr 1), (3, fr 3), (5, fr 5), (7, fr 7), (8, fr 8), (9, fr 9), (10, fr 10), (11, fr 11), (12, v42)] H⟩)
@[simp] def r11 (fr : AFr) (H : AHeap) : ARes :=
 areg (e' [(1, fr 1), (3, fr 3), (5, fr 5), (7, fr 7), (8, fr 8), (9, fr 9), (10, fr 10), (11, fr 11), (13, (.bool false))] H)
@[simp] def r12 (fr : AFr) (H : AHeap) : ARes :=
 areg (e' [(1, fr 1), (3, fr 3), (5, fr 5), (7, fr 7), (8, fr 8), (9, fr 9), (10, fr 10), (11, fr 11), (13, fr 13), (14, (.int .i64 0))] H)
@[simp] def r13 (fr : AFr) (H : AHeap) : ARes :=
 areg (q' (alenR .sl (fr 7)) H ⟨fun v55 H =>
 q' (bn' .lss (fr 14) v55) H ⟨fun v56 H =>
 e' [(1, fr 1), (3, fr 3), (5, fr 5), (7, fr 7), (8, fr 8), (9, fr 9), (10, fr 10), (11, fr 11), (13, fr 13), (14, fr 14), (56, v56)] H⟩⟩)
@[simp] def r15 (fr : AFr) (H : AHeap) : ARes :=
 areg (G' (fr 13) false ⟨some (fr 7)⟩ H ⟨fun v61 H =>
 G' (fr 13) false ⟨some (fr 14)⟩ H ⟨fun v62 H =>
 G' (fr 13) false ⟨aindexAddrR (.sl 1) v61 v62⟩ H ⟨fun v63 H =>
 G' (fr 13) false ⟨ld' v63 H⟩ H ⟨fun v64 H =>
 G' (fr 13) false ⟨some (fr 10)⟩ H ⟨fun v65 H =>
 G' (fr 13) false ⟨bn' .eql v64 v65⟩ H ⟨fun v66 H =>
 q' (apick (fr 13) (.bool true) v66) H ⟨fun v67 H =>
 e' [(1, fr 1), (3, fr 3), (5, fr 5), (7, fr 7), (8, fr 8), (9, fr 9), (10, fr 10), (11, fr 11), (13, v67), (14, fr 14)] H⟩⟩⟩⟩⟩⟩⟩)
@[simp] def r14 (fr : AFr) (H : AHeap) : ARes :=
 areg (q' (bn' .add (fr 14) (.int .i64 1)) H ⟨fun v58 H =>
 e' [(1, fr 1), (3, fr 3), (5, fr 5), (7, fr 7), (8, fr 8), (9, fr 9), (10, fr 10), (11, fr 11), (13, fr 13), (14, v58)] H⟩)
@[simp] def r16 (fr : AFr) (H : AHeap) : ARes :=
 areg (q' (aun .not (fr 11)) H ⟨fun v69 H =>
 G' v69 true ⟨some (fr 13)⟩ H ⟨fun v71 H =>
 G' v69 true ⟨aun .not v71⟩ H ⟨fun v72 H =>
 q' (apick v69 v72 (.bool false)) H ⟨fun v73 H =>
 e' [(1, fr 1), (3, fr 3), (5, fr 5), (7, fr 7), (8, fr 8), (9, fr 9), (10, fr 10), (73, v73)] H⟩⟩⟩⟩)
@[simp] def r17 (fr : AFr) (H : AHeap) : ARes :=
 areg (q' (bn' .add (fr 8) (.int .i64 1)) H ⟨fun v75 H =>
 e' [(1, fr 1), (3, fr 3), (5, fr 5), (7, fr 7), (8, v75), (9, fr 9), (10, fr 10)] H⟩)
@[simp] def r18 (fr : AFr) (H : AHeap) : ARes :=
 areg (o' (abuildSliceR (some ⟨T.ty_int, 1, 8, [(.int .i64 0)]⟩) 1 [(0, (fr 10))] H) ⟨fun v78 H =>
 o' (aappendR (some ⟨T.ty_int, 1, 8, [(.int .i64 0)]⟩) (fr 7) v78 H) ⟨fun v79 H =>
 e' [(1, fr 1), (3, fr 3), (5, fr 5), (7, v79), (8, fr 8), (9, fr 9)] H⟩⟩)
@[simp] def r4 (fr : AFr) (H : AHeap) : ARes :=
 areg (q' (bn' .add (fr 9) (.int .i64 1)) H ⟨fun v24 H =>
 e' [(1, fr 1), (3, fr 3), (5, fr 5), (7, fr 7), (8, fr 8), (9, v24)] H⟩)
@[simp] def r19 (s0 : SpecP) (fr : AFr) (H : AHeap) : ARes :=
 areg (q' (Ld' 3 (fr 3) H) H ⟨fun v80 H =>
 o' (callP false s0 [[none, some 4, some 1], [some 1]] [v80, (fr 7)] H) ⟨fun v82 H =>
 e' [(1, fr 1), (8, fr 8), (15, v82)] H⟩⟩)
@[simp] def r20 (fr : AFr) (H : AHeap) : ARes :=
 areg (e' [(1, fr 1), (8, fr 8), (15, fr 15), (16, (.int .i64 0))] H)
@[simp] def r21 (fr : AFr) (H : AHeap) : ARes :=
 areg (q' (alenR .sl (fr 15)) H ⟨fun v85 H =>
 q' (bn' .lss (fr 16) v85) H ⟨fun v86 H =>
 e' [(1, fr 1), (8, fr 8), (15, fr 15), (16, fr 16), (86, v86)] H⟩⟩)
@[simp] def r23 (fr : AFr) (H : AHeap) : ARes :=
 areg (e' [(1, fr 1), (8, fr 8), (15, fr 15), (16, fr 16), (17, (.int .i64 0))] H)
@[simp] def r24 (fr : AFr) (H : AHeap) : ARes :=
 areg (e' [(1, fr 1), (8, fr 8), (15, fr 15), (16, fr 16), (17, fr 17), (18, (.int .i64 0))] H)
@[simp] def r25 (fr : AFr) (H : AHeap) : ARes :=
 areg (q' (bn' .leq (fr 18) (fr 1)) H ⟨fun v93 H =>
 e' [(1, fr 1), (8, fr 8), (15, fr 15), (16, fr 16), (17, fr 17), (18, fr 18), (93, v93)] H⟩)
@[simp] def r27 (fr : AFr) (H : AHeap) : ARes :=
 areg (q' (bn' .add (fr 16) (fr 18)) H ⟨fun v99 H =>
 q' (aindexAddrR (.sl 1) (fr 15) v99) H ⟨fun v100 H =>
 q' (ld' v100 H) H ⟨fun v101 H =>
 e' [(1, fr 1), (8, fr 8), (15, fr 15), (16, fr 16), (17, fr 17), (18, fr 18), (101, v101)] H⟩⟩⟩)
@[simp] def r28 (fr : AFr) (H : AHeap) : ARes :=
 areg (q' (bn' .add (fr 17) (.int .i64 1)) H ⟨fun v103 H =>
 e' [(1, fr 1), (8, fr 8), (15, fr 15), (16, fr 16), (17, v103), (18, fr 18)] H⟩)
@[simp] def r26 (fr : AFr) (H : AHeap) : ARes :=
 areg (q' (bn' .add (fr 18) (.int .i64 1)) H ⟨fun v95 H =>
 e' [(1, fr 1), (8, fr 8), (15, fr 15), (16, fr 16), (17, fr 17), (18, v95)] H⟩)
@[simp] def r29 (fr : AFr) (H : AHeap) : ARes :=
 areg (q' (bn' .gtr (fr 17) (fr 8)) H ⟨fun v106 H =>
 e' [(1, fr 1), (8, fr 8), (15, fr 15), (16, fr 16), (106, v106)] H⟩)
@[simp] def r30 (fr : AFr) (H : AHeap) : ARes :=
 areg (e' [(6, (.bool false))] H)
@[simp] def r22 (fr : AFr) (H : AHeap) : ARes :=
 areg (q' (bn' .add (fr 1) (.int .i64 1)) H ⟨fun v89 H =>
 q' (bn' .add (fr 16) v89) H ⟨fun v90 H =>
 e' [(1, fr 1), (8, fr 8), (15, fr 15), (16, v90)] H⟩⟩)
@[simp] def r31 (fr : AFr) (H : AHeap) : ARes :=
 areg (e' [(6, (.bool true))] H)
def l1 (s0 : SpecP) (fr : AFr) (H : AHeap) : ARes :=
  s' (s' (r8 fr H) ⟨fun fr H =>
 c' (fr 40)
 ⟨some (.normal, fr, H)⟩
 ⟨some (.exit 2, fr, H)⟩⟩) ⟨fun fr H =>
 s' (aexit 3 (r10 fr H)) ⟨fun fr H =>
 r9 fr H⟩⟩
def l2 (s0 : SpecP) (fr : AFr) (H : AHeap) : ARes :=
  s' (s' (r13 fr H) ⟨fun fr H =>
 c' (fr 56)
 ⟨some (.normal, fr, H)⟩
 ⟨some (.exit 4, fr, H)⟩⟩) ⟨fun fr H =>
 s' (aexit 5 (r15 fr H)) ⟨fun fr H =>
 r14 fr H⟩⟩
def l0 (s0 : SpecP) (fr : AFr) (H : AHeap) : ARes :=
  s' (s' (r3 fr H) ⟨fun fr H =>
 c' (fr 22)
 ⟨some (.normal, fr, H)⟩
 ⟨some (.exit 0, fr, H)⟩⟩) ⟨fun fr H =>
 s' (aexit 1 (s' (r5 fr H) ⟨fun fr H =>
 s' (r6 fr H) ⟨fun fr H =>
 s' (s' (r7 fr H) ⟨fun fr H =>
  aexit 2 (aloop (l1 s0) fr H)⟩) ⟨fun fr H =>
 s' (r11 fr H) ⟨fun fr H =>
 s' (s' (r12 fr H) ⟨fun fr H =>
  aexit 4 (aloop (l2 s0) fr H)⟩) ⟨fun fr H =>
 s' (s' (r16 fr H) ⟨fun fr H =>
 c' (fr 73)
 ⟨r17 fr H⟩
 ⟨some (.normal, fr, H)⟩⟩) ⟨fun fr H =>
 r18 fr H⟩⟩⟩⟩⟩⟩)) ⟨fun fr H =>
 r4 fr H⟩⟩
def l4 (s0 : SpecP) (fr : AFr) (H : AHeap) : ARes :=
  s' (s' (r25 fr H) ⟨fun fr H =>
 c' (fr 93)
 ⟨some (.normal, fr, H)⟩
 ⟨some (.exit 8, fr, H)⟩⟩) ⟨fun fr H =>
 s' (aexit 9 (s' (r27 fr H) ⟨fun fr H =>
 c' (fr 101)
 ⟨r28 fr H⟩
 ⟨some (.normal, fr, H)⟩⟩)) ⟨fun fr H =>
 r26 fr H⟩⟩
def l3 (s0 : SpecP) (fr : AFr) (H : AHeap) : ARes :=
  s' (s' (r21 fr H) ⟨fun fr H =>
 c' (fr 86)
 ⟨some (.normal, fr, H)⟩
 ⟨some (.exit 6, fr, H)⟩⟩) ⟨fun fr H =>
 s' (aexit 7 (s' (r23 fr H) ⟨fun fr H =>
 s' (s' (r24 fr H) ⟨fun fr H =>
  aexit 8 (aloop (l4 s0) fr H)⟩) ⟨fun fr H =>
 s' (r29 fr H) ⟨fun fr H =>
 c' (fr 106)
 ⟨s' (r30 fr H) ⟨fun fr H =>
 some (.ret, fr, H)⟩⟩
 ⟨some (.normal, fr, H)⟩⟩⟩⟩)) ⟨fun fr H =>
 r22 fr H⟩⟩
@[simp] def body (s0 : SpecP) (fr : AFr) (H : AHeap) : ARes :=
  s' (r0 fr H) ⟨fun fr H =>
 s' (r1 fr H) ⟨fun fr H =>
 s' (s' (r2 fr H) ⟨fun fr H =>
  aexit 0 (aloop (l0 s0) fr H)⟩) ⟨fun fr H =>
 s' (r19 s0 fr H) ⟨fun fr H =>
 s' (s' (r20 fr H) ⟨fun fr H =>
  aexit 6 (aloop (l3 s0) fr H)⟩) ⟨fun fr H =>
 s' (r31 fr H) ⟨fun fr H =>
 some (.ret, fr, H)⟩⟩⟩⟩⟩⟩
@[simp] def res (fr : AFr) (H : AHeap) : Option (List AV) := res2 (some (fr 6)) (some [])
end law19_safe
def law19_safe (a0 a1 a2 : AV) : Option AV := closeUpR (some [[none]]) (afinR law19_safe.res (law19_safe.body ref19_Matter.spec (args0 [a0, a1, a2]) AHeap.empty))
def law19_safe.spec : List AV → Option AV
  | [a0, a1, a2] => law19_safe a0 a1 a2
  | _ => none
namespace law19_lives
def C (s0 s1 : SpecP) : Tab := ((Tab.none.add 26 (.pure false s0)).add 34 (.pure false s1))
@[simp] def r0 (fr : AFr) (H : AHeap) : ARes :=
 areg (e' [] H)
@[simp] def r1 (s0 : SpecP) (fr : AFr) (H : AHeap) : ARes :=
 areg (o' (callP false s0 [[none]] [(.int .i64 1)] H) ⟨fun v4 H =>
 q' (aextract v4 0) H ⟨fun v5 H =>
 q' (aextract v4 1) H ⟨fun v6 H =>
 o' (aallocR T.ty_api_Code (some (.agg [(.int .i64 0), .nils, .nils])) H) ⟨fun v1 H =>
 w' (astoreR (some 3) v1 v5 H) ⟨fun _ H =>
 e' [(1, v1), (2, v6)] H⟩⟩⟩⟩⟩)
@[simp] def r2 (s1 : SpecP) (fr : AFr) (H : AHeap) : ARes :=
 areg (q' (bn' .eql (fr 2) (.int .i64 0)) H ⟨fun v8 H =>
 G' v8 true ⟨fa' 0 (fr 1)⟩ H ⟨fun v10 H =>
 G' v8 true ⟨ld' v10 H⟩ H ⟨fun v11 H =>
 G' v8 true ⟨bn' .eql v11 (.int .i64 4)⟩ H ⟨fun v12 H =>
 q' (apick v8 v12 (.bool false)) H ⟨fun v13 H =>
 G' v13 true ⟨fa' 1 (fr 1)⟩ H ⟨fun v15 H =>
 G' v13 true ⟨ld' v15 H⟩ H ⟨fun v16 H =>
 G' v13 true ⟨alenR .sl v16⟩ H ⟨fun v17 H =>
 G' v13 true ⟨bn' .eql v17 (.int .i64 9)⟩ H ⟨fun v18 H =>
 q' (apick v13 v18 (.bool false)) H ⟨fun v19 H =>
 G' v19 true ⟨fa' 2 (fr 1)⟩ H ⟨fun v21 H =>
 G' v19 true ⟨ld' v21 H⟩ H ⟨fun v22 H =>
 G' v19 true ⟨alenR .sl v22⟩ H ⟨fun v23 H =>
 G' v19 true ⟨bn' .eql v23 (.int .i64 2)⟩ H ⟨fun v24 H =>
 q' (apick v19 v24 (.bool false)) H ⟨fun v25 H =>
 G' v25 true ⟨Ld' 3 (fr 1) H⟩ H ⟨fun v27 H =>
 o' (g' (gw v25 true) ⟨callP false s1 [[none, some 4, some 1]] [v27] H⟩ H) ⟨fun v28 H =>
 G' v25 true ⟨bn' .eql v28 (.int .i64 1)⟩ H ⟨fun v29 H =>
 q' (apick v25 v29 (.bool false)) H ⟨fun v30 H =>
 e' [(0, v30)] H⟩⟩⟩⟩⟩⟩⟩⟩⟩⟩⟩⟩⟩⟩⟩⟩⟩⟩⟩)
@[simp] def body (s0 s1 : SpecP) (fr : AFr) (H : AHeap) : ARes :=
  s' (r0 fr H) ⟨fun fr H =>
 s' (r1 s0 fr H) ⟨fun fr H =>
 s' (r2 s1 fr H) ⟨fun fr H =>
 some (.ret, fr, H)⟩⟩⟩
@[simp] def res (fr : AFr) (H : AHeap) : Option (List AV) := res2 (some (fr 0)) (some [])
end law19_lives
def law19_lives : Option AV := closeUpR (some [[none]]) (afinR law19_lives.res (law19_lives.body isw_And.spec isw_Randoms.spec (args0 []) AHeap.empty))
def law19_lives.spec : List AV → Option AV
  | [] => law19_lives
  | _ => none
namespace law19_IswSafeFresh
@[simp] def r0 (fr : AFr) (H : AHeap) : ARes :=
 areg (o' (abox T.ty_3_uint16 (fr 1) H) ⟨fun v3 H =>
 e' [(0, fr 0), (3, v3)] H⟩)
@[simp] def r1 (fr : AFr) (H : AHeap) : ARes :=
 areg (q' (bn' .rem (fr 0) (W8 3#8)) H ⟨fun v9 H =>
 q' (aconvR (some .i64) v9) H ⟨fun v10 H =>
 q' (bn' .add (.int .i64 1) v10) H ⟨fun v11 H =>
 e' [(3, fr 3), (5, v11)] H⟩⟩⟩)
@[simp] def r2 (s0 : SpecP) (fr : AFr) (H : AHeap) : ARes :=
 areg (o' (callP false s0 [[none]] [(fr 5)] H) ⟨fun v14 H =>
 q' (aextract v14 0) H ⟨fun v15 H =>
 q' (aextract v14 1) H ⟨fun v16 H =>
 o' (aallocR T.ty_api_Code (some (.agg [(.int .i64 0), .nils, .nils])) H) ⟨fun v6 H =>
 w' (astoreR (some 3) v6 v15 H) ⟨fun _ H =>
 e' [(3, fr 3), (5, fr 5), (6, v6), (7, v16)] H⟩⟩⟩⟩⟩)
@[simp] def r3 (s1 s2 s3 s4 : SpecP) (fr : AFr) (H : AHeap) : ARes :=
 areg (q' (bn' .eql (fr 7) (.int .i64 0)) H ⟨fun v18 H =>
 G' v18 true ⟨Ld' 3 (fr 6) H⟩ H ⟨fun v20 H =>
 o' (g' (gw v18 true) ⟨callP false s1 [[none, some 4, some 1]] [v20] H⟩ H) ⟨fun v21 H =>
 q' (apick v18 v21 (.bool false)) H ⟨fun v22 H =>
 G' v22 true ⟨fa' 0 (fr 6)⟩ H ⟨fun v24 H =>
 G' v22 true ⟨ld' v24 H⟩ H ⟨fun v25 H =>
 G' v22 true ⟨some (fr 5)⟩ H ⟨fun v26 H =>
 G' v22 true ⟨bn' .add v26 (.int .i64 1)⟩ H ⟨fun v27 H =>
 G' v22 true ⟨bn' .eql v25 v27⟩ H ⟨fun v28 H =>
 q' (apick v22 v28 (.bool false)) H ⟨fun v29 H =>
 G' v29 true ⟨fa' 1 (fr 6)⟩ H ⟨fun v31 H =>
 G' v29 true ⟨ld' v31 H⟩ H ⟨fun v32 H =>
 G' v29 true ⟨alenR .sl v32⟩ H ⟨fun v33 H =>
 G' v29 true ⟨bn' .lss v33 (.int .i64 60)⟩ H ⟨fun v34 H =>
 q' (apick v29 v34 (.bool false)) H ⟨fun v35 H =>
 G' v35 true ⟨Ld' 3 (fr 6) H⟩ H ⟨fun v37 H =>
 o' (g' (gw v35 true) ⟨callP false s2 [[none, some 4, some 1]] [v37] H⟩ H) ⟨fun v38 H =>
 G' v35 true ⟨some (fr 5)⟩ H ⟨fun v39 H =>
 G' v35 true ⟨some (fr 5)⟩ H ⟨fun v40 H =>
 G' v35 true ⟨bn' .add v40 (.int .i64 1)⟩ H ⟨fun v41 H =>
 G' v35 true ⟨bn' .mul v39 v41⟩ H ⟨fun v42 H =>
 G' v35 true ⟨bn' .quo v42 (.int .i64 2)⟩ H ⟨fun v43 H =>
 G' v35 true ⟨bn' .eql v38 v43⟩ H ⟨fun v44 H =>
 q' (apick v35 v44 (.bool false)) H ⟨fun v45 H =>
 G' v45 true ⟨Ld' 3 (fr 6) H⟩ H ⟨fun v47 H =>
 G' v45 true ⟨some (fr 5)⟩ H ⟨fun v48 H =>
 G' v45 true ⟨Ld' 3 (fr 3) H⟩ H ⟨fun v49 H =>
 o' (g' (gw v45 true) ⟨callP false s3 [[none, some 4, some 1], [none], [none, none, none]] [v47, v48, v49] H⟩ H) ⟨fun v50 H =>
 q' (apick v45 v50 (.bool false)) H ⟨fun v51 H =>
 o' (g' (gw v51 true) ⟨callP false s4 [] [] H⟩ H) ⟨fun v53 H =>
 q' (apick v51 v53 (.bool false)) H ⟨fun v54 H =>
 e' [(4, v54)] H⟩⟩⟩⟩⟩⟩⟩⟩⟩⟩⟩⟩⟩⟩⟩⟩⟩⟩⟩⟩⟩⟩⟩⟩⟩⟩⟩⟩⟩⟩⟩)
@[simp] def body (s0 s1 s2 s3 s4 : SpecP) (fr : AFr) (H : AHeap) : ARes :=
  s' (r0 fr H) ⟨fun fr H =>
 s' (r1 fr H) ⟨fun fr H =>
 s' (r2 s0 fr H) ⟨fun fr H =>
 s' (r3 s1 s2 s3 s4 fr H) ⟨fun fr H =>
 some (.ret, fr, H)⟩⟩⟩⟩
@[simp] def res (fr : AFr) (H : AHeap) : Option (List AV) := res2 (some (fr 4)) (some [])
end law19_IswSafeFresh
def law19_IswSafeFresh (a0 a1 : AV) : Option AV := closeUpR (some [[none]]) (afinR law19_IswSafeFresh.res (law19_IswSafeFresh.body isw_Refresh.spec ref19_Can.spec ref19_Randoms.spec law19_safe.spec law19_lives.spec (args0 [a0, a1]) AHeap.empty))
namespace law19_IswCodes
def C (s0 s1 s2 s3 s4 s5 s6 : SpecP) : Tab := (((((((Tab.none.add 26 (.pure false s0)).add 31 (.pure false s1)).add 30 (.pure false s2)).add 32 (.pure false s3)).add 29 (.pure false s4)).add 33 (.pure false s5)).add 34 (.pure false s6))
@[simp] def r0 (fr : AFr) (H : AHeap) : ARes :=
 areg (e' [(0, fr 0)] H)
@[simp] def r1 (s0 : SpecP) (fr : AFr) (H : AHeap) : ARes :=
 areg (o' (callP false s0 [[none]] [(fr 0)] H) ⟨fun v13 H =>
 q' (aextract v13 0) H ⟨fun v14 H =>
 q' (aextract v13 1) H ⟨fun v15 H =>
 o' (aallocR T.ty_api_Code (some (.agg [(.int .i64 0), .nils, .nils])) H) ⟨fun v3 H =>
 w' (astoreR (some 3) v3 v14 H) ⟨fun _ H =>
 e' [(0, fr 0), (3, v3), (4, v15)] H⟩⟩⟩⟩⟩)
@[simp] def r2 (s1 : SpecP) (fr : AFr) (H : AHeap) : ARes :=
 areg (o' (callP false s1 [[none], [none]] [(fr 0), (.bool true)] H) ⟨fun v18 H =>
 q' (aextract v18 0) H ⟨fun v19 H =>
 q' (aextract v18 1) H ⟨fun v20 H =>
 o' (aallocR T.ty_api_Code (some (.agg [(.int .i64 0), .nils, .nils])) H) ⟨fun v5 H =>
 w' (astoreR (some 3) v5 v19 H) ⟨fun _ H =>
 e' [(0, fr 0), (3, fr 3), (4, fr 4), (5, v5), (6, v20)] H⟩⟩⟩⟩⟩)
@[simp] def r3 (s2 : SpecP) (fr : AFr) (H : AHeap) : ARes :=
 areg (o' (callP false s2 [[none]] [(fr 0)] H) ⟨fun v23 H =>
 q' (aextract v23 0) H ⟨fun v24 H =>
 q' (aextract v23 1) H ⟨fun v25 H =>
 o' (aallocR T.ty_api_Code (some (.agg [(.int .i64 0), .nils, .nils])) H) ⟨fun v7 H =>
 w' (astoreR (some 3) v7 v24 H) ⟨fun _ H =>
 e' [(0, fr 0), (3, fr 3), (4, fr 4), (5, fr 5), (6, fr 6), (7, v7), (8, v25)] H⟩⟩⟩⟩⟩)
@[simp] def r4 (s1 : SpecP) (fr : AFr) (H : AHeap) : ARes :=
 areg (o' (callP false s1 [[none], [none]] [(fr 0), (.bool false)] H) ⟨fun v28 H =>
 q' (aextract v28 0) H ⟨fun v29 H =>
 q' (aextract v28 1) H ⟨fun v30 H =>
 o' (aallocR T.ty_api_Code (some (.agg [(.int .i64 0), .nils, .nils])) H) ⟨fun v9 H =>
 w' (astoreR (some 3) v9 v29 H) ⟨fun _ H =>
 e' [(0, fr 0), (3, fr 3), (4, fr 4), (5, fr 5), (6, fr 6), (7, fr 7), (8, fr 8), (9, v9), (10, v30)] H⟩⟩⟩⟩⟩)
@[simp] def r5 (s3 : SpecP) (fr : AFr) (H : AHeap) : ARes :=
 areg (q' (Ld' 3 (fr 3) H) H ⟨fun v31 H =>
 q' (Ld' 3 (fr 5) H) H ⟨fun v32 H =>
 o' (callP false s3 [[none, some 4, some 1], [none, some 4, some 1]] [v31, v32] H) ⟨fun v33 H =>
 q' (aun .not v33) H ⟨fun v34 H =>
 G' v34 false ⟨some (fr 4)⟩ H ⟨fun v36 H =>
 G' v34 false ⟨some (fr 6)⟩ H ⟨fun v37 H =>
 G' v34 false ⟨bn' .neq v36 v37⟩ H ⟨fun v38 H =>
 q' (apick v34 (.bool true) v38) H ⟨fun v39 H =>
 G' v39 false ⟨Ld' 3 (fr 7) H⟩ H ⟨fun v41 H =>
 G' v39 false ⟨Ld' 3 (fr 9) H⟩ H ⟨fun v42 H =>
 o' (g' (gw v39 false) ⟨callP false s3 [[none, some 4, some 1], [none, some 4, some 1]] [v41, v42] H⟩ H) ⟨fun v43 H =>
 G' v39 false ⟨aun .not v43⟩ H ⟨fun v44 H =>
 q' (apick v39 (.bool true) v44) H ⟨fun v45 H =>
 G' v45 false ⟨some (fr 8)⟩ H ⟨fun v47 H =>
 G' v45 false ⟨some (fr 10)⟩ H ⟨fun v48 H =>
 G' v45 false ⟨bn' .neq v47 v48⟩ H ⟨fun v49 H =>
 q' (apick v45 (.bool true) v49) H ⟨fun v50 H =>
 e' [(0, fr 0), (3, fr 3), (4, fr 4), (7, fr 7), (50, v50)] H⟩⟩⟩⟩⟩⟩⟩⟩⟩⟩⟩⟩⟩⟩⟩⟩⟩)
@[simp] def r6 (fr : AFr) (H : AHeap) : ARes :=
 areg (e' [(2, (.bool false))] H)
@[simp] def r7 (fr : AFr) (H : AHeap) : ARes :=
 areg (q' (bn' .neq (fr 4) (.int .i64 0)) H ⟨fun v52 H =>
 e' [(0, fr 0), (3, fr 3), (7, fr 7), (52, v52)] H⟩)
@[simp] def r8 (s4 : SpecP) (fr : AFr) (H : AHeap) : ARes :=
 areg (o' (callP false s4 [] [] H) ⟨fun v53 H =>
 e' [(2, v53)] H⟩)
@[simp] def r9 (s4 s5 s6 : SpecP) (fr : AFr) (H : AHeap) : ARes :=
 areg (q' (Ld' 3 (fr 3) H) H ⟨fun v54 H =>
 o' (callP false s5 [[none, some 4, some 1]] [v54] H) ⟨fun v55 H =>
 G' v55 true ⟨Ld' 3 (fr 7) H⟩ H ⟨fun v57 H =>
 o' (g' (gw v55 true) ⟨callP false s5 [[none, some 4, some 1]] [v57] H⟩ H) ⟨fun v58 H =>
 q' (apick v55 v58 (.bool false)) H ⟨fun v59 H =>
 G' v59 true ⟨Ld' 3 (fr 3) H⟩ H ⟨fun v61 H =>
 o' (g' (gw v59 true) ⟨callP false s6 [[none, some 4, some 1]] [v61] H⟩ H) ⟨fun v62 H =>
 G' v59 true ⟨some (fr 0)⟩ H ⟨fun v63 H =>
 G' v59 true ⟨some (fr 0)⟩ H ⟨fun v64 H =>
 G' v59 true ⟨bn' .add v64 (.int .i64 1)⟩ H ⟨fun v65 H =>
 G' v59 true ⟨bn' .mul v63 v65⟩ H ⟨fun v66 H =>
 G' v59 true ⟨bn' .quo v66 (.int .i64 2)⟩ H ⟨fun v67 H =>
 G' v59 true ⟨bn' .eql v62 v67⟩ H ⟨fun v68 H =>
 q' (apick v59 v68 (.bool false)) H ⟨fun v69 H =>
 G' v69 true ⟨Ld' 3 (fr 7) H⟩ H ⟨fun v71 H =>
 o' (g' (gw v69 true) ⟨callP false s6 [[none, some 4, some 1]] [v71] H⟩ H) ⟨fun v72 H =>
 G' v69 true ⟨some (fr 0)⟩ H ⟨fun v73 H =>
 G' v69 true ⟨some (fr 0)⟩ H ⟨fun v74 H =>
 G' v69 true ⟨bn' .add v74 (.int .i64 1)⟩ H ⟨fun v75 H =>
 G' v69 true ⟨bn' .mul v73 v75⟩ H ⟨fun v76 H =>
 G' v69 true ⟨bn' .quo v76 (.int .i64 2)⟩ H ⟨fun v77 H =>
 G' v69 true ⟨bn' .eql v72 v77⟩ H ⟨fun v78 H =>
 q' (apick v69 v78 (.bool false)) H ⟨fun v79 H =>
 o' (g' (gw v79 true) ⟨callP false s4 [] [] H⟩ H) ⟨fun v81 H =>
 q' (apick v79 v81 (.bool false)) H ⟨fun v82 H =>
 e' [(2, v82)] H⟩⟩⟩⟩⟩⟩⟩⟩⟩⟩⟩⟩⟩⟩⟩⟩⟩⟩⟩⟩⟩⟩⟩⟩⟩)
@[simp] def body (s0 s1 s2 s3 s4 s5 s6 : SpecP) (fr : AFr) (H : AHeap) : ARes :=
  s' (r0 fr H) ⟨fun fr H =>
 s' (r1 s0 fr H) ⟨fun fr H =>
 s' (r2 s1 fr H) ⟨fun fr H =>
 s' (r3 s2 fr H) ⟨fun fr H =>
 s' (r4 s1 fr H) ⟨fun fr H =>
 s' (s' (r5 s3 fr H) ⟨fun fr H =>
 c' (fr 50)
 ⟨s' (r6 fr H) ⟨fun fr H =>
 some (.ret, fr, H)⟩⟩
 ⟨some (.normal, fr, H)⟩⟩) ⟨fun fr H =>
 s' (s' (r7 fr H) ⟨fun fr H =>
 c' (fr 52)
 ⟨s' (r8 s4 fr H) ⟨fun fr H =>
 some (.ret, fr, H)⟩⟩
 ⟨some (.normal, fr, H)⟩⟩) ⟨fun fr H =>
 s' (r9 s4 s5 s6 fr H) ⟨fun fr H =>
 some (.ret, fr, H)⟩⟩⟩⟩⟩⟩⟩⟩
@[simp] def res (fr : AFr) (H : AHeap) : Option (List AV) := res2 (some (fr 2)) (some [])
end law19_IswCodes
def law19_IswCodes (a0 : AV) : Option AV := closeUpR (some [[none]]) (afinR law19_IswCodes.res (law19_IswCodes.body isw_And.spec ref19_Gadget.spec isw_Refresh.spec ref19_Same.spec law19_lives.spec isw_Can.spec isw_Randoms.spec (args0 [a0]) AHeap.empty))
def law19_IswCodes.spec : List AV → Option AV
  | [a0] => law19_IswCodes a0
  | _ => none
namespace law19_Small
def C : Tab := Tab.none
@[simp] def r0 (fr : AFr) (H : AHeap) : ARes :=
 areg (o' (abox T.ty_api_Code (fr 0) H) ⟨fun v1 H =>
 e' [(1, v1)] H⟩)
@[simp] def r1 (fr : AFr) (H : AHeap) : ARes :=
 areg (q' (fa' 1 (fr 1)) H ⟨fun v3 H =>
 q' (ld' v3 H) H ⟨fun v4 H =>
 q' (alenR .sl v4) H ⟨fun v5 H =>
 q' (bn' .leq v5 (.int .i64 3000)) H ⟨fun v6 H =>
 G' v6 true ⟨fa' 2 (fr 1)⟩ H ⟨fun v8 H =>
 G' v6 true ⟨ld' v8 H⟩ H ⟨fun v9 H =>
 G' v6 true ⟨alenR .sl v9⟩ H ⟨fun v10 H =>
 G' v6 true ⟨bn' .leq v10 (.int .i64 500)⟩ H ⟨fun v11 H =>
 q' (apick v6 v11 (.bool false)) H ⟨fun v12 H =>
 e' [(2, v12)] H⟩⟩⟩⟩⟩⟩⟩⟩⟩)
@[simp] def body (fr : AFr) (H : AHeap) : ARes :=
  s' (r0 fr H) ⟨fun fr H =>
 s' (r1 fr H) ⟨fun fr H =>
 some (.ret, fr, H)⟩⟩
@[simp] def res (fr : AFr) (H : AHeap) : Option (List AV) := res2 (some (fr 2)) (some [])
end law19_Small
def law19_Small (a0 : AV) : Option AV := closeUpR (some [[none]]) (afinR law19_Small.res (law19_Small.body (args0 [a0]) AHeap.empty))
def law19_Small.spec : List AV → Option AV
  | [a0] => law19_Small a0
  | _ => none
namespace law19_short
def C : Tab := Tab.none
@[simp] def r0 (fr : AFr) (H : AHeap) : ARes :=
 areg (e' [(0, fr 0)] H)
@[simp] def r1 (fr : AFr) (H : AHeap) : ARes :=
 areg (q' (alenR .sl (fr 0)) H ⟨fun v4 H =>
 q' (bn' .gtr v4 (.int .i64 200)) H ⟨fun v5 H =>
 e' [(0, fr 0), (5, v5)] H⟩⟩)
@[simp] def r2 (fr : AFr) (H : AHeap) : ARes :=
 areg (q' (asliceR (.sl 1) (fr 0) none (some (.int .i64 200)) none) H ⟨fun v7 H =>
 e' [(0, v7)] H⟩)
@[simp] def r3 (fr : AFr) (H : AHeap) : ARes :=
 areg (o' (abuildSliceR (some ⟨T.ty_uint32, 1, 4, [(W32 0#32)]⟩) 0 [] H) ⟨fun v8 H =>
 o' (aappendR (some ⟨T.ty_uint32, 1, 4, [(W32 0#32)]⟩) v8 (fr 0) H) ⟨fun v10 H =>
 e' [(2, v10)] H⟩⟩)
@[simp] def body (fr : AFr) (H : AHeap) : ARes :=
  s' (r0 fr H) ⟨fun fr H =>
 s' (s' (r1 fr H) ⟨fun fr H =>
 c' (fr 5)
 ⟨r2 fr H⟩
 ⟨some (.normal, fr, H)⟩⟩) ⟨fun fr H =>
 s' (r3 fr H) ⟨fun fr H =>
 some (.ret, fr, H)⟩⟩⟩
@[simp] def res (fr : AFr) (H : AHeap) : Option (List AV) := res2 (some (fr 2)) (some [])
end law19_short
def law19_short (a0 : AV) : Option AV := closeUpR (some [[some 1]]) (afinR law19_short.res (law19_short.body (args0 [a0]) AHeap.empty))
def law19_short.spec : List AV → Option AV
  | [a0] => law19_short a0
  | _ => none
namespace law19_IswBegins
def C (s0 s1 s2 s3 s4 s5 s6 : SpecP) : Tab := (((((((Tab.none.add 35 (.pure false s0)).add 27 (.pure false s1)).add 29 (.pure false s2)).add 36 (.pure false s3)).add 17 (.pure false s4)).add 37 (.pure false s5)).add 38 (.pure false s6))
@[simp] def r0 (fr : AFr) (H : AHeap) : ARes :=
 areg (o' (abox T.ty_api_Code (fr 0) H) ⟨fun v3 H =>
 o' (abox T.ty_2_sl_uint32 (fr 1) H) ⟨fun v4 H =>
 e' [(2, fr 2), (3, v3), (4, v4)] H⟩⟩)
@[simp] def r1 (fr : AFr) (H : AHeap) : ARes :=
 areg (q' (aindexAddrR (.arr 2 1) (fr 4) (.int .i64 0)) H ⟨fun v14 H1 =>
 q' (ld' v14 H1) H1 ⟨fun v15 H2 =>
 q' (aindexAddrR (.arr 2 1) (fr 4) (.int .i64 1)) H2 ⟨fun v16 H3 =>
 q' (ld' v16 H3) H3 ⟨fun v17 H4 =>
 q' (some v15) H4 ⟨fun v7 H5 =>
 q' (some v17) H5 ⟨fun v8 H6 =>
 e' [(2, fr 2), (3, fr 3), (7, v7), (8, v8)] H6⟩⟩⟩⟩⟩⟩)
@[simp] def r2 (s0 s1 : SpecP) (fr : AFr) (H : AHeap) : ARes :=
 areg (q' (Ld' 3 (fr 3) H) H ⟨fun v18 H =>
 o' (callP false s0 [[none, some 4, some 1]] [v18] H) ⟨fun v19 H =>
 q' (aun .not v19) H ⟨fun v20 H =>
 G' v20 false ⟨fa' 1 (fr 3)⟩ H ⟨fun v22 H =>
 G' v20 false ⟨ld' v22 H⟩ H ⟨fun v23 H =>
 G' v20 false ⟨alenR .sl v23⟩ H ⟨fun v24 H =>
 G' v20 false ⟨bn' .eql v24 (.int .i64 0)⟩ H ⟨fun v25 H =>
 q' (apick v20 (.bool true) v25) H ⟨fun v26 H =>
 G' v26 false ⟨Ld' 3 (fr 3) H⟩ H ⟨fun v28 H =>
 o' (g' (gw v26 false) ⟨callP false s1 [[none, some 4, some 1]] [v28] H⟩ H) ⟨fun v29 H =>
 G' v26 false ⟨aun .not v29⟩ H ⟨fun v30 H =>
 q' (apick v26 (.bool true) v30) H ⟨fun v31 H =>
 e' [(2, fr 2), (3, fr 3), (7, fr 7), (8, fr 8), (31, v31)] H⟩⟩⟩⟩⟩⟩⟩⟩⟩⟩⟩⟩)
@[simp] def r3 (s2 : SpecP) (fr : AFr) (H : AHeap) : ARes :=
 areg (o' (callP false s2 [] [] H) ⟨fun v32 H =>
 e' [(6, v32)] H⟩)
@[simp] def r4 (s3 : SpecP) (fr : AFr) (H : AHeap) : ARes :=
 areg (o' (callP false s3 [[some 1]] [(fr 7)] H) ⟨fun v34 H =>
 o' (callP false s3 [[some 1]] [(fr 8)] H) ⟨fun v36 H =>
 e' [(2, fr 2), (3, fr 3), (7, v34), (8, v36)] H⟩⟩)
@[simp] def r5 (fr : AFr) (H : AHeap) : ARes :=
 areg (q' (aconvR (some .i64) (fr 2)) H ⟨fun v38 H =>
 q' (fa' 1 (fr 3)) H ⟨fun v39 H =>
 q' (ld' v39 H) H ⟨fun v40 H =>
 q' (alenR .sl v40) H ⟨fun v41 H =>
 q' (bn' .rem v38 v41) H ⟨fun v42 H =>
 e' [(3, fr 3), (7, fr 7), (8, fr 8), (9, v42)] H⟩⟩⟩⟩⟩)
@[simp] def r6 (s4 s5 : SpecP) (fr : AFr) (H : AHeap) : ARes :=
 areg (q' (Ld' 3 (fr 3) H) H ⟨fun v44 H =>
 o' (callP false s4 [[none, some 4, some 1]] [v44] H) ⟨fun v45 H =>
 o' (callP false s5 [[none, some 4, some 1], [some 1], [some 1]] [v45, (fr 7), (fr 8)] H) ⟨fun v48 H =>
 q' (aextract v48 0) H ⟨fun v49 H =>
 q' (aextract v48 1) H ⟨fun v50 H =>
 e' [(3, fr 3), (7, fr 7), (8, fr 8), (9, fr 9), (10, v49), (11, v50)] H⟩⟩⟩⟩⟩)
@[simp] def r7 (s5 : SpecP) (fr : AFr) (H : AHeap) : ARes :=
 areg (q' (fa' 0 (fr 3)) H ⟨fun v52 H1 =>
 q' (ld' v52 H1) H1 ⟨fun v53 H2 =>
 o' (abuildSliceR (some ⟨T.ty_api_Op, 4, 32, [(.int .i64 0), (.int .i64 0), (.int .i64 0), (W32 0#32)]⟩) 0 [] H2) ⟨fun v54 H3 =>
 q' (fa' 1 (fr 3)) H3 ⟨fun v55 H4 =>
 q' (ld' v55 H4) H4 ⟨fun v56 H5 =>
 q' (some (fr 9)) H5 ⟨fun v57 H6 =>
 q' (asliceR (.sl 4) v56 none (some v57) none) H6 ⟨fun v58 H7 =>
 o' (aappendR (some ⟨T.ty_api_Op, 4, 32, [(.int .i64 0), (.int .i64 0), (.int .i64 0), (W32 0#32)]⟩) v54 v58 H7) ⟨fun v59 H8 =>
 q' (abuildR (.str [(.int .i64 0), .nils, .nils] [(0, 1), (1, 1), (2, 1)]) [(0, v53), (1, v59)]) H8 ⟨fun v60 H9 =>
 q' (some (fr 7)) H9 ⟨fun v61 H10 =>
 q' (some (fr 8)) H10 ⟨fun v62 H11 =>
 o' (callP false s5 [[none, some 4, some 1], [some 1], [some 1]] [v60, v61, v62] H11) ⟨fun v63 H12 =>
 q' (some v63) H12 ⟨fun v51 H13 =>
 q' (aextract v51 0) H13 ⟨fun v64 H14 =>
 q' (aextract v51 1) H14 ⟨fun v65 H15 =>
 q' (some v64) H15 ⟨fun v12 H16 =>
 q' (some v65) H16 ⟨fun v13 H17 =>
 withChk [aloadR (some none) v52 H7 = aloadR (some none) v52 H8] (e' [(3, fr 3), (9, fr 9), (10, fr 10), (11, fr 11), (12, v12), (13, v13)] H17)⟩⟩⟩⟩⟩⟩⟩⟩⟩⟩⟩⟩⟩⟩⟩⟩⟩)
@[simp] def r8 (fr : AFr) (H : AHeap) : ARes :=
 areg (q' (aun .not (fr 11)) H ⟨fun v67 H =>
 e' [(3, fr 3), (9, fr 9), (10, fr 10), (12, fr 12), (13, fr 13), (67, v67)] H⟩)
@[simp] def r9 (s2 : SpecP) (fr : AFr) (H : AHeap) : ARes :=
 areg (q' (alenR .sl (fr 10)) H ⟨fun v69 H =>
 q' (bn' .eql v69 (.int .i64 0)) H ⟨fun v70 H =>
 o' (g' (gw v70 true) ⟨callP false s2 [] [] H⟩ H) ⟨fun v72 H =>
 q' (apick v70 v72 (.bool false)) H ⟨fun v73 H =>
 e' [(6, v73)] H⟩⟩⟩⟩)
@[simp] def r10 (s2 s6 : SpecP) (fr : AFr) (H : AHeap) : ARes :=
 areg (G' (fr 13) true ⟨some (fr 10)⟩ H ⟨fun v76 H =>
 G' (fr 13) true ⟨alenR .sl v76⟩ H ⟨fun v77 H =>
 G' (fr 13) true ⟨fa' 0 (fr 3)⟩ H ⟨fun v78 H =>
 G' (fr 13) true ⟨ld' v78 H⟩ H ⟨fun v79 H =>
 G' (fr 13) true ⟨fa' 1 (fr 3)⟩ H ⟨fun v80 H =>
 G' (fr 13) true ⟨ld' v80 H⟩ H ⟨fun v81 H =>
 G' (fr 13) true ⟨alenR .sl v81⟩ H ⟨fun v82 H =>
 G' (fr 13) true ⟨bn' .add v79 v82⟩ H ⟨fun v83 H =>
 G' (fr 13) true ⟨bn' .eql v77 v83⟩ H ⟨fun v84 H =>
 q' (apick (fr 13) v84 (.bool false)) H ⟨fun v85 H =>
 G' v85 true ⟨some (fr 10)⟩ H ⟨fun v87 H =>
 G' v85 true ⟨fa' 0 (fr 3)⟩ H ⟨fun v88 H =>
 G' v85 true ⟨ld' v88 H⟩ H ⟨fun v89 H =>
 G' v85 true ⟨some (fr 9)⟩ H ⟨fun v90 H =>
 G' v85 true ⟨bn' .add v89 v90⟩ H ⟨fun v91 H =>
 G' v85 true ⟨asliceR (.sl 1) v87 none (some v91) none⟩ H ⟨fun v92 H =>
 G' v85 true ⟨some (fr 12)⟩ H ⟨fun v93 H =>
 o' (g' (gw v85 true) ⟨callP false s6 [[some 1], [some 1]] [v92, v93] H⟩ H) ⟨fun v94 H =>
 q' (apick v85 v94 (.bool false)) H ⟨fun v95 H =>
 o' (g' (gw v95 true) ⟨callP false s2 [] [] H⟩ H) ⟨fun v97 H =>
 q' (apick v95 v97 (.bool false)) H ⟨fun v98 H =>
 e' [(6, v98)] H⟩⟩⟩⟩⟩⟩⟩⟩⟩⟩⟩⟩⟩⟩⟩⟩⟩⟩⟩⟩⟩)
@[simp] def body (s0 s1 s2 s3 s4 s5 s6 : SpecP) (fr : AFr) (H : AHeap) : ARes :=
  s' (r0 fr H) ⟨fun fr H =>
 s' (r1 fr H) ⟨fun fr H =>
 s' (s' (r2 s0 s1 fr H) ⟨fun fr H =>
 c' (fr 31)
 ⟨s' (r3 s2 fr H) ⟨fun fr H =>
 some (.ret, fr, H)⟩⟩
 ⟨some (.normal, fr, H)⟩⟩) ⟨fun fr H =>
 s' (r4 s3 fr H) ⟨fun fr H =>
 s' (r5 fr H) ⟨fun fr H =>
 s' (r6 s4 s5 fr H) ⟨fun fr H =>
 s' (r7 s5 fr H) ⟨fun fr H =>
 s' (s' (r8 fr H) ⟨fun fr H =>
 c' (fr 67)
 ⟨s' (r9 s2 fr H) ⟨fun fr H =>
 some (.ret, fr, H)⟩⟩
 ⟨some (.normal, fr, H)⟩⟩) ⟨fun fr H =>
 s' (r10 s2 s6 fr H) ⟨fun fr H =>
 some (.ret, fr, H)⟩⟩⟩⟩⟩⟩⟩⟩⟩
@[simp] def res (fr : AFr) (H : AHeap) : Option (List AV) := res2 (some (fr 6)) (some [])
end law19_IswBegins
def law19_IswBegins (a0 a1 a2 : AV) : Option AV := closeUpR (some [[none]]) (afinR law19_IswBegins.res (law19_IswBegins.body law19_Small.spec ref19_Can.spec law19_lives.spec law19_short.spec ref19_Own.spec isw_Exec.spec ref05_Same.spec (args0 [a0, a1, a2]) AHeap.empty))
def law19_IswBegins.spec : List AV → Option AV
  | [a0, a1, a2] => law19_IswBegins a0 a1 a2
  | _ => none
namespace law19_IswExecs
def C (s0 s1 s2 s3 s4 s5 s6 s7 s8 s9 s10 s11 s12 : SpecP) : Tab := (((((((((((((Tab.none.add 35 (.pure false s0)).add 29 (.pure false s1)).add 36 (.pure false s2)).add 17 (.pure false s3)).add 37 (.pure false s4)).add 39 (.pure false s5)).add 38 (.pure false s6)).add 33 (.pure false s7)).add 27 (.pure false s8)).add 34 (.pure false s9)).add 22 (.pure false s10)).add 40 (.pure false s11)).add 41 (.pure false s12))
@[simp] def r0 (fr : AFr) (H : AHeap) : ARes :=
 areg (o' (abox T.ty_api_Code (fr 0) H) ⟨fun v3 H =>
 e' [(1, fr 1), (2, fr 2), (3, v3)] H⟩)
@[simp] def r1 (s0 : SpecP) (fr : AFr) (H : AHeap) : ARes :=
 areg (q' (Ld' 3 (fr 3) H) H ⟨fun v11 H =>
 o' (callP false s0 [[none, some 4, some 1]] [v11] H) ⟨fun v12 H =>
 q' (aun .not v12) H ⟨fun v13 H =>
 e' [(1, fr 1), (2, fr 2), (3, fr 3), (13, v13)] H⟩⟩⟩)
@[simp] def r2 (s1 : SpecP) (fr : AFr) (H : AHeap) : ARes :=
 areg (o' (callP false s1 [] [] H) ⟨fun v14 H =>
 e' [(6, v14)] H⟩)
@[simp] def r3 (s2 : SpecP) (fr : AFr) (H : AHeap) : ARes :=
 areg (o' (callP false s2 [[some 1]] [(fr 1)] H) ⟨fun v16 H =>
 o' (callP false s2 [[some 1]] [(fr 2)] H) ⟨fun v18 H =>
 e' [(1, v16), (2, v18), (3, fr 3)] H⟩⟩)
@[simp] def r4 (s3 s4 : SpecP) (fr : AFr) (H : AHeap) : ARes :=
 areg (q' (Ld' 3 (fr 3) H) H ⟨fun v20 H =>
 o' (callP false s3 [[none, some 4, some 1]] [v20] H) ⟨fun v21 H =>
 o' (callP false s4 [[none, some 4, some 1], [some 1], [some 1]] [v21, (fr 1), (fr 2)] H) ⟨fun v24 H =>
 q' (aextract v24 0) H ⟨fun v25 H =>
 q' (aextract v24 1) H ⟨fun v26 H =>
 e' [(1, fr 1), (2, fr 2), (3, fr 3), (7, v25), (8, v26)] H⟩⟩⟩⟩⟩)
@[simp] def r5 (s5 : SpecP) (fr : AFr) (H : AHeap) : ARes :=
 areg (q' (Ld' 3 (fr 3) H) H ⟨fun v28 H =>
 o' (callP false s5 [[none, some 4, some 1], [some 1], [some 1]] [v28, (fr 1), (fr 2)] H) ⟨fun v31 H =>
 q' (aextract v31 0) H ⟨fun v32 H =>
 q' (aextract v31 1) H ⟨fun v33 H =>
 e' [(3, fr 3), (7, fr 7), (8, fr 8), (9, v32), (10, v33)] H⟩⟩⟩⟩)
@[simp] def r6 (s1 s3 s6 s7 s8 s9 s10 s11 s12 : SpecP) (fr : AFr) (H : AHeap) : ARes :=
 areg (q' (some (fr 7)) H ⟨fun v34 H1 =>
 q' (some (fr 9)) H1 ⟨fun v35 H2 =>
 o' (callP false s6 [[some 1], [some 1]] [v34, v35] H2) ⟨fun v36 H3 =>
 q' (some v36) H3 ⟨fun v37 H4 =>
 G' v37 true ⟨some (fr 8)⟩ H4 ⟨fun v38 H5 =>
 G' v37 true ⟨some (fr 10)⟩ H5 ⟨fun v39 H6 =>
 G' v37 true ⟨abinR .b .eql v38 v39⟩ H6 ⟨fun v40 H7 =>
 q' (apick v37 v40 (.bool false)) H7 ⟨fun v41 H8 =>
 q' (some v41) H8 ⟨fun v42 H9 =>
 G' v42 true ⟨Ld' 3 (fr 3) H9⟩ H9 ⟨fun v43 H10 =>
 o' (g' (gw v42 true) ⟨callP false s3 [[none, some 4, some 1]] [v43] H10⟩ H10) ⟨fun v44 H11 =>
 o' (g' (gw v42 true) ⟨callP false s7 [[none, some 4, some 1]] [v44] H11⟩ H11) ⟨fun v45 H12 =>
 G' v42 true ⟨Ld' 3 (fr 3) H12⟩ H12 ⟨fun v46 H13 =>
 o' (g' (gw v42 true) ⟨callP false s8 [[none, some 4, some 1]] [v46] H13⟩ H13) ⟨fun v47 H14 =>
 G' v42 true ⟨abinR .b .eql v45 v47⟩ H14 ⟨fun v48 H15 =>
 q' (apick v42 v48 (.bool false)) H15 ⟨fun v49 H16 =>
 q' (some v49) H16 ⟨fun v50 H17 =>
 G' v50 true ⟨Ld' 3 (fr 3) H17⟩ H17 ⟨fun v51 H18 =>
 o' (g' (gw v50 true) ⟨callP false s9 [[none, some 4, some 1]] [v51] H18⟩ H18) ⟨fun v52 H19 =>
 G' v50 true ⟨Ld' 3 (fr 3) H19⟩ H19 ⟨fun v53 H20 =>
 o' (g' (gw v50 true) ⟨callP false s10 [[none, some 4, some 1]] [v53] H20⟩ H20) ⟨fun v54 H21 =>
 G' v50 true ⟨bn' .eql v52 v54⟩ H21 ⟨fun v55 H22 =>
 q' (apick v50 v55 (.bool false)) H22 ⟨fun v56 H23 =>
 q' (some v56) H23 ⟨fun v57 H24 =>
 G' v57 true ⟨Ld' 3 (fr 3) H24⟩ H24 ⟨fun v58 H25 =>
 G' v57 true ⟨some (fr 7)⟩ H25 ⟨fun v59 H26 =>
 o' (g' (gw v57 true) ⟨callP false s11 [[none, some 4, some 1], [some 1]] [v58, v59] H26⟩ H26) ⟨fun v60 H27 =>
 G' v57 true ⟨Ld' 3 (fr 3) H27⟩ H27 ⟨fun v61 H28 =>
 G' v57 true ⟨some (fr 9)⟩ H28 ⟨fun v62 H29 =>
 o' (g' (gw v57 true) ⟨callP false s12 [[none, some 4, some 1], [some 1]] [v61, v62] H29⟩ H29) ⟨fun v63 H30 =>
 o' (g' (gw v57 true) ⟨callP false s6 [[some 1], [some 1]] [v60, v63] H30⟩ H30) ⟨fun v64 H31 =>
 q' (apick v57 v64 (.bool false)) H31 ⟨fun v65 H32 =>
 q' (some v65) H32 ⟨fun v66 H33 =>
 o' (g' (gw v66 true) ⟨callP false s1 [] [] H33⟩ H33) ⟨fun v67 H34 =>
 q' (apick v66 v67 (.bool false)) H34 ⟨fun v68 H35 =>
 q' (some v68) H35 ⟨fun v6 H36 =>
 withChk [aloadR (some (some 3)) (fr 3) H10 = aloadR (some (some 3)) (fr 3) H11, aloadR (some (some 3)) (fr 3) H11 = aloadR (some (some 3)) (fr 3) H12, aloadR (some (some 3)) (fr 3) H18 = aloadR (some (some 3)) (fr 3) H19, aloadR (some (some 3)) (fr 3) H26 = aloadR (some (some 3)) (fr 3) H27] (e' [(6, v6)] H36)⟩⟩⟩⟩⟩⟩⟩⟩⟩⟩⟩⟩⟩⟩⟩⟩⟩⟩⟩⟩⟩⟩⟩⟩⟩⟩⟩⟩⟩⟩⟩⟩⟩⟩⟩⟩)
@[simp] def body (s0 s1 s2 s3 s4 s5 s6 s7 s8 s9 s10 s11 s12 : SpecP) (fr : AFr) (H : AHeap) : ARes :=
  s' (r0 fr H) ⟨fun fr H =>
 s' (s' (r1 s0 fr H) ⟨fun fr H =>
 c' (fr 13)
 ⟨s' (r2 s1 fr H) ⟨fun fr H =>
 some (.ret, fr, H)⟩⟩
 ⟨some (.normal, fr, H)⟩⟩) ⟨fun fr H =>
 s' (r3 s2 fr H) ⟨fun fr H =>
 s' (r4 s3 s4 fr H) ⟨fun fr H =>
 s' (r5 s5 fr H) ⟨fun fr H =>
 s' (r6 s1 s3 s6 s7 s8 s9 s10 s11 s12 fr H) ⟨fun fr H =>
 some (.ret, fr, H)⟩⟩⟩⟩⟩⟩
@[simp] def res (fr : AFr) (H : AHeap) : Option (List AV) := res2 (some (fr 6)) (some [])
end law19_IswExecs
def law19_IswExecs (a0 a1 a2 : AV) : Option AV := closeUpR (some [[none]]) (afinR law19_IswExecs.res (law19_IswExecs.body law19_Small.spec law19_lives.spec law19_short.spec ref19_Own.spec isw_Exec.spec ref19_Exec.spec ref05_Same.spec isw_Can.spec ref19_Can.spec isw_Randoms.spec ref19_Randoms.spec isw_Outs.spec ref19_Outs.spec (args0 [a0, a1, a2]) AHeap.empty))
def law19_IswExecs.spec : List AV → Option AV
  | [a0, a1, a2] => law19_IswExecs a0 a1 a2
  | _ => none
namespace law19_words
def C (s0 : SpecP) : Tab := (Tab.none.add 62 (.pure false s0))
@[simp] def r0 (fr : AFr) (H : AHeap) : ARes :=
 areg (e' [(0, fr 0), (1, fr 1), (2, fr 2)] H)
@[simp] def r1 (fr : AFr) (H : AHeap) : ARes :=
 areg (o' (abuildSliceR (some ⟨T.ty_uint32, 1, 4, [(W32 0#32)]⟩) 0 [] H) ⟨fun v9 H =>
 e' [(0, fr 0), (1, fr 1), (2, fr 2), (7, v9)] H⟩)
@[simp] def r2 (fr : AFr) (H : AHeap) : ARes :=
 areg (e' [(0, fr 0), (1, fr 1), (2, fr 2), (7, fr 7), (8, (.int .i64 0))] H)
@[simp] def r3 (fr : AFr) (H : AHeap) : ARes :=
 areg (q' (bn' .lss (fr 8) (fr 2)) H ⟨fun v12 H =>
 e' [(0, fr 0), (1, fr 1), (2, fr 2), (7, fr 7), (8, fr 8), (12, v12)] H⟩)
@[simp] def r5 (s0 : SpecP) (fr : AFr) (H : AHeap) : ARes :=
 areg (q' (bn' .add (fr 1) (fr 8)) H ⟨fun v19 H =>
 o' (callP false s0 [[some 1], [none]] [(fr 0), v19] H) ⟨fun v20 H =>
 o' (abuildSliceR (some ⟨T.ty_uint32, 1, 4, [(W32 0#32)]⟩) 1 [(0, v20)] H) ⟨fun v21 H =>
 o' (aappendR (some ⟨T.ty_uint32, 1, 4, [(W32 0#32)]⟩) (fr 7) v21 H) ⟨fun v22 H =>
 e' [(0, fr 0), (1, fr 1), (2, fr 2), (7, v22), (8, fr 8)] H⟩⟩⟩⟩)
@[simp] def r4 (fr : AFr) (H : AHeap) : ARes :=
 areg (q' (bn' .add (fr 8) (.int .i64 1)) H ⟨fun v14 H =>
 e' [(0, fr 0), (1, fr 1), (2, fr 2), (7, fr 7), (8, v14)] H⟩)
@[simp] def r6 (fr : AFr) (H : AHeap) : ARes :=
 areg (e' [(6, (fr 7))] H)
def l0 (s0 : SpecP) (fr : AFr) (H : AHeap) : ARes :=
  s' (s' (r3 fr H) ⟨fun fr H =>
 c' (fr 12)
 ⟨some (.normal, fr, H)⟩
 ⟨some (.exit 0, fr, H)⟩⟩) ⟨fun fr H =>
 s' (aexit 1 (r5 s0 fr H)) ⟨fun fr H =>
 r4 fr H⟩⟩
@[simp] def body (s0 : SpecP) (fr : AFr) (H : AHeap) : ARes :=
  s' (r0 fr H) ⟨fun fr H =>
 s' (r1 fr H) ⟨fun fr H =>
 s' (s' (r2 fr H) ⟨fun fr H =>
  aexit 0 (aloop (l0 s0) fr H)⟩) ⟨fun fr H =>
 s' (r6 fr H) ⟨fun fr H =>
 some (.ret, fr, H)⟩⟩⟩⟩
@[simp] def res (fr : AFr) (H : AHeap) : Option (List AV) := res2 (some (fr 6)) (some [])
end law19_words
def law19_words (a0 a1 a2 : AV) : Option AV := closeUpR (some [[some 1]]) (afinR law19_words.res (law19_words.body ref18_At.spec (args0 [a0, a1, a2]) AHeap.empty))
def law19_words.spec : List AV → Option AV
  | [a0, a1, a2] => law19_words a0 a1 a2
  | _ => none
namespace law19_IswRight
def C (s0 s1 s2 s3 s4 s5 s6 : SpecP) : Tab := (((((((Tab.none.add 42 (.pure false s0)).add 26 (.pure false s1)).add 30 (.pure false s2)).add 37 (.pure false s3)).add 40 (.pure false s4)).add 43 (.pure false s5)).add 29 (.pure false s6))
@[simp] def r0 (fr : AFr) (H : AHeap) : ARes :=
 areg (e' [(0, fr 0), (1, fr 1), (2, fr 2)] H)
@[simp] def r1 (fr : AFr) (H : AHeap) : ARes :=
 areg (q' (bn' .rem (fr 0) (W8 7#8)) H ⟨fun v19 H =>
 q' (aconvR (some .i64) v19) H ⟨fun v20 H =>
 e' [(1, fr 1), (2, fr 2), (7, v20)] H⟩⟩)
@[simp] def r2 (s0 : SpecP) (fr : AFr) (H : AHeap) : ARes :=
 areg (q' (bn' .add (fr 7) (.int .i64 1)) H ⟨fun v23 H =>
 o' (callP false s0 [[some 1], [none], [none]] [(fr 1), (.int .i64 0), v23] H) ⟨fun v24 H =>
 q' (bn' .add (fr 7) (.int .i64 1)) H ⟨fun v27 H =>
 q' (bn' .add (fr 7) (.int .i64 1)) H ⟨fun v29 H =>
 o' (callP false s0 [[some 1], [none], [none]] [(fr 1), v27, v29] H) ⟨fun v30 H =>
 e' [(2, fr 2), (7, fr 7), (8, v24), (9, v30)] H⟩⟩⟩⟩⟩)
@[simp] def r3 (s0 : SpecP) (fr : AFr) (H : AHeap) : ARes :=
 areg (q' (bn' .add (fr 7) (.int .i64 1)) H ⟨fun v34 H =>
 q' (bn' .mul (fr 7) v34) H ⟨fun v35 H =>
 q' (bn' .quo v35 (.int .i64 2)) H ⟨fun v36 H =>
 o' (callP false s0 [[some 1], [none], [none]] [(fr 2), (.int .i64 0), v36] H) ⟨fun v37 H =>
 e' [(2, v37), (7, fr 7), (8, fr 8), (9, fr 9)] H⟩⟩⟩⟩)
@[simp] def r4 (s1 : SpecP) (fr : AFr) (H : AHeap) : ARes :=
 areg (o' (callP false s1 [[none]] [(fr 7)] H) ⟨fun v40 H =>
 q' (aextract v40 0) H ⟨fun v41 H =>
 q' (aextract v40 1) H ⟨fun v42 H =>
 o' (aallocR T.ty_api_Code (some (.agg [(.int .i64 0), .nils, .nils])) H) ⟨fun v10 H =>
 w' (astoreR (some 3) v10 v41 H) ⟨fun _ H =>
 e' [(2, fr 2), (7, fr 7), (8, fr 8), (9, fr 9), (10, v10), (11, v42)] H⟩⟩⟩⟩⟩)
@[simp] def r5 (s2 : SpecP) (fr : AFr) (H : AHeap) : ARes :=
 areg (o' (callP false s2 [[none]] [(fr 7)] H) ⟨fun v45 H =>
 q' (aextract v45 0) H ⟨fun v46 H =>
 q' (aextract v45 1) H ⟨fun v47 H =>
 o' (aallocR T.ty_api_Code (some (.agg [(.int .i64 0), .nils, .nils])) H) ⟨fun v12 H =>
 w' (astoreR (some 3) v12 v46 H) ⟨fun _ H =>
 e' [(2, fr 2), (7, fr 7), (8, fr 8), (9, fr 9), (10, fr 10), (11, fr 11), (12, v12), (13, v47)] H⟩⟩⟩⟩⟩)
@[simp] def r6 (fr : AFr) (H : AHeap) : ARes :=
 areg (q' (bn' .neq (fr 11) (.int .i64 0)) H ⟨fun v49 H =>
 G' v49 false ⟨some (fr 13)⟩ H ⟨fun v51 H =>
 G' v49 false ⟨bn' .neq v51 (.int .i64 0)⟩ H ⟨fun v52 H =>
 q' (apick v49 (.bool true) v52) H ⟨fun v53 H =>
 e' [(2, fr 2), (7, fr 7), (8, fr 8), (9, fr 9), (10, fr 10), (12, fr 12), (53, v53)] H⟩⟩⟩⟩)
@[simp] def r7 (fr : AFr) (H : AHeap) : ARes :=
 areg (e' [(6, (.bool false))] H)
@[simp] def r8 (s3 : SpecP) (fr : AFr) (H : AHeap) : ARes :=
 areg (q' (Ld' 3 (fr 10) H) H ⟨fun v55 H1 =>
 o' (abuildSliceR (some ⟨T.ty_uint32, 1, 4, [(W32 0#32)]⟩) 0 [] H1) ⟨fun v56 H2 =>
 q' (some (fr 8)) H2 ⟨fun v57 H3 =>
 o' (aappendR (some ⟨T.ty_uint32, 1, 4, [(W32 0#32)]⟩) v56 v57 H3) ⟨fun v58 H4 =>
 q' (some (fr 9)) H4 ⟨fun v59 H5 =>
 o' (aappendR (some ⟨T.ty_uint32, 1, 4, [(W32 0#32)]⟩) v58 v59 H5) ⟨fun v60 H6 =>
 q' (some (fr 2)) H6 ⟨fun v61 H7 =>
 o' (callP false s3 [[none, some 4, some 1], [some 1], [some 1]] [v55, v60, v61] H7) ⟨fun v62 H8 =>
 q' (some v62) H8 ⟨fun v54 H9 =>
 q' (aextract v54 0) H9 ⟨fun v63 H10 =>
 q' (aextract v54 1) H10 ⟨fun v64 H11 =>
 q' (some v63) H11 ⟨fun v14 H12 =>
 q' (some v64) H12 ⟨fun v15 H13 =>
 withChk [aloadR (some (some 3)) (fr 10) H3 = aloadR (some (some 3)) (fr 10) H4, aloadR (some (some 3)) (fr 10) H5 = aloadR (some (some 3)) (fr 10) H6] (e' [(2, fr 2), (7, fr 7), (8, fr 8), (9, fr 9), (10, fr 10), (12, fr 12), (14, v14), (15, v15)] H13)⟩⟩⟩⟩⟩⟩⟩⟩⟩⟩⟩⟩⟩)
@[simp] def r9 (s3 : SpecP) (fr : AFr) (H : AHeap) : ARes :=
 areg (q' (Ld' 3 (fr 12) H) H ⟨fun v66 H =>
 o' (callP false s3 [[none, some 4, some 1], [some 1], [some 1]] [v66, (fr 8), (fr 2)] H) ⟨fun v69 H =>
 q' (aextract v69 0) H ⟨fun v70 H =>
 q' (aextract v69 1) H ⟨fun v71 H =>
 e' [(7, fr 7), (8, fr 8), (9, fr 9), (10, fr 10), (12, fr 12), (14, fr 14), (15, fr 15), (16, v70), (17, v71)] H⟩⟩⟩⟩)
@[simp] def r10 (s4 s5 s6 : SpecP) (fr : AFr) (H : AHeap) : ARes :=
 areg (G' (fr 15) true ⟨some (fr 17)⟩ H ⟨fun v74 H =>
 q' (apick (fr 15) v74 (.bool false)) H ⟨fun v75 H =>
 G' v75 true ⟨Ld' 3 (fr 10) H⟩ H ⟨fun v77 H =>
 G' v75 true ⟨some (fr 14)⟩ H ⟨fun v78 H =>
 o' (g' (gw v75 true) ⟨callP false s4 [[none, some 4, some 1], [some 1]] [v77, v78] H⟩ H) ⟨fun v79 H =>
 o' (g' (gw v75 true) ⟨callP false s5 [[some 1]] [v79] H⟩ H) ⟨fun v80 H =>
 G' v75 true ⟨some (fr 8)⟩ H ⟨fun v81 H =>
 o' (g' (gw v75 true) ⟨callP false s5 [[some 1]] [v81] H⟩ H) ⟨fun v82 H =>
 G' v75 true ⟨some (fr 9)⟩ H ⟨fun v83 H =>
 o' (g' (gw v75 true) ⟨callP false s5 [[some 1]] [v83] H⟩ H) ⟨fun v84 H =>
 G' v75 true ⟨bn' .and v82 v84⟩ H ⟨fun v85 H =>
 G' v75 true ⟨bn' .eql v80 v85⟩ H ⟨fun v86 H =>
 q' (apick v75 v86 (.bool false)) H ⟨fun v87 H =>
 G' v87 true ⟨Ld' 3 (fr 12) H⟩ H ⟨fun v89 H =>
 G' v87 true ⟨some (fr 16)⟩ H ⟨fun v90 H =>
 o' (g' (gw v87 true) ⟨callP false s4 [[none, some 4, some 1], [some 1]] [v89, v90] H⟩ H) ⟨fun v91 H =>
 o' (g' (gw v87 true) ⟨callP false s5 [[some 1]] [v91] H⟩ H) ⟨fun v92 H =>
 G' v87 true ⟨some (fr 8)⟩ H ⟨fun v93 H =>
 o' (g' (gw v87 true) ⟨callP false s5 [[some 1]] [v93] H⟩ H) ⟨fun v94 H =>
 G' v87 true ⟨bn' .eql v92 v94⟩ H ⟨fun v95 H =>
 q' (apick v87 v95 (.bool false)) H ⟨fun v96 H =>
 G' v96 true ⟨Ld' 3 (fr 10) H⟩ H ⟨fun v98 H =>
 G' v96 true ⟨some (fr 14)⟩ H ⟨fun v99 H =>
 o' (g' (gw v96 true) ⟨callP false s4 [[none, some 4, some 1], [some 1]] [v98, v99] H⟩ H) ⟨fun v100 H =>
 G' v96 true ⟨alenR .sl v100⟩ H ⟨fun v101 H =>
 G' v96 true ⟨some (fr 7)⟩ H ⟨fun v102 H =>
 G' v96 true ⟨bn' .add v102 (.int .i64 1)⟩ H ⟨fun v103 H =>
 G' v96 true ⟨bn' .eql v101 v103⟩ H ⟨fun v104 H =>
 q' (apick v96 v104 (.bool false)) H ⟨fun v105 H =>
 o' (g' (gw v105 true) ⟨callP false s6 [] [] H⟩ H) ⟨fun v107 H =>
 q' (apick v105 v107 (.bool false)) H ⟨fun v108 H =>
 e' [(6, v108)] H⟩⟩⟩⟩⟩⟩⟩⟩⟩⟩⟩⟩⟩⟩⟩⟩⟩⟩⟩⟩⟩⟩⟩⟩⟩⟩⟩⟩⟩⟩⟩)
@[simp] def body (s0 s1 s2 s3 s4 s5 s6 : SpecP) (fr : AFr) (H : AHeap) : ARes :=
  s' (r0 fr H) ⟨fun fr H =>
 s' (r1 fr H) ⟨fun fr H =>
 s' (r2 s0 fr H) ⟨fun fr H =>
 s' (r3 s0 fr H) ⟨fun fr H =>
 s' (r4 s1 fr H) ⟨fun fr H =>
 s' (r5 s2 fr H) ⟨fun fr H =>
 s' (s' (r6 fr H) ⟨fun fr H =>
 c' (fr 53)
 ⟨s' (r7 fr H) ⟨fun fr H =>
 some (.ret, fr, H)⟩⟩
 ⟨some (.normal, fr, H)⟩⟩) ⟨fun fr H =>
 s' (r8 s3 fr H) ⟨fun fr H =>
 s' (r9 s3 fr H) ⟨fun fr H =>
 s' (r10 s4 s5 s6 fr H) ⟨fun fr H =>
 some (.ret, fr, H)⟩⟩⟩⟩⟩⟩⟩⟩⟩⟩
@[simp] def res (fr : AFr) (H : AHeap) : Option (List AV) := res2 (some (fr 6)) (some [])
end law19_IswRight
def law19_IswRight (a0 a1 a2 : AV) : Option AV := closeUpR (some [[none]]) (afinR law19_IswRight.res (law19_IswRight.body law19_words.spec isw_And.spec isw_Refresh.spec isw_Exec.spec isw_Outs.spec ref18_Join.spec law19_lives.spec (args0 [a0, a1, a2]) AHeap.empty))
def law19_IswRight.spec : List AV → Option AV
  | [a0, a1, a2] => law19_IswRight a0 a1 a2
  | _ => none
end
end Go.Abs
