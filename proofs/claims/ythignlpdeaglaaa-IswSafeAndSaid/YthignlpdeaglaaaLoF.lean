import Derived.Test.YthignlpdeaglaaaT
section
set_option linter.unusedVariables false
namespace Go.Abs
noncomputable section
end
end Go.Abs
end
section
set_option linter.unusedVariables false
namespace Go.Abs
noncomputable section
namespace ref02_Same
def C : Tab := Tab.none
@[simp] def r0 (fr : AFr) (H : AHeap) : ARes :=
 areg (e' [(0, fr 0), (1, fr 1)] H)
@[simp] def r1 (fr : AFr) (H : AHeap) : ARes :=
 areg (q' (alenR .sl (fr 0)) H ⟨fun v7 H =>
 q' (alenR .sl (fr 1)) H ⟨fun v9 H =>
 q' (bn' .neq v7 v9) H ⟨fun v10 H =>
 e' [(0, fr 0), (1, fr 1), (10, v10)] H⟩⟩⟩)
@[simp] def r2 (fr : AFr) (H : AHeap) : ARes :=
 areg (e' [(4, (.bool false))] H)
@[simp] def r3 (fr : AFr) (H : AHeap) : ARes :=
 areg (e' [(0, fr 0), (1, fr 1), (5, (.int .i64 0))] H)
@[simp] def r4 (fr : AFr) (H : AHeap) : ARes :=
 areg (q' (alenR .sl (fr 0)) H ⟨fun v13 H =>
 q' (bn' .lss (fr 5) v13) H ⟨fun v14 H =>
 e' [(0, fr 0), (1, fr 1), (5, fr 5), (14, v14)] H⟩⟩)
@[simp] def r6 (fr : AFr) (H : AHeap) : ARes :=
 areg (q' (some (fr 0)) H ⟨fun v17 H1 =>
 q' (some (fr 5)) H1 ⟨fun v18 H2 =>
 q' (aindexAddrR (.sl 1) v17 v18) H2 ⟨fun v19 H3 =>
 q' (ld' v19 H3) H3 ⟨fun v20 H4 =>
 q' (some (fr 1)) H4 ⟨fun v21 H5 =>
 q' (some (fr 5)) H5 ⟨fun v22 H6 =>
 q' (aindexAddrR (.sl 1) v21 v22) H6 ⟨fun v23 H7 =>
 q' (ld' v23 H7) H7 ⟨fun v24 H8 =>
 q' (bn' .neq v20 v24) H8 ⟨fun v25 H9 =>
 e' [(0, fr 0), (1, fr 1), (5, fr 5), (25, v25)] H9⟩⟩⟩⟩⟩⟩⟩⟩⟩)
@[simp] def r7 (fr : AFr) (H : AHeap) : ARes :=
 areg (e' [(4, (.bool false))] H)
@[simp] def r5 (fr : AFr) (H : AHeap) : ARes :=
 areg (q' (bn' .add (fr 5) (.int .i64 1)) H ⟨fun v16 H =>
 e' [(0, fr 0), (1, fr 1), (5, v16)] H⟩)
@[simp] def r8 (fr : AFr) (H : AHeap) : ARes :=
 areg (e' [(4, (.bool true))] H)
def l0 (fr : AFr) (H : AHeap) : ARes :=
  s' (s' (r4 fr H) ⟨fun fr H =>
 c' (fr 14)
 ⟨some (.normal, fr, H)⟩
 ⟨some (.exit 0, fr, H)⟩⟩) ⟨fun fr H =>
 s' (aexit 1 (s' (r6 fr H) ⟨fun fr H =>
 c' (fr 25)
 ⟨s' (r7 fr H) ⟨fun fr H =>
 some (.ret, fr, H)⟩⟩
 ⟨some (.normal, fr, H)⟩⟩)) ⟨fun fr H =>
 r5 fr H⟩⟩
@[simp] def body (fr : AFr) (H : AHeap) : ARes :=
  s' (r0 fr H) ⟨fun fr H =>
 s' (s' (r1 fr H) ⟨fun fr H =>
 c' (fr 10)
 ⟨s' (r2 fr H) ⟨fun fr H =>
 some (.ret, fr, H)⟩⟩
 ⟨some (.normal, fr, H)⟩⟩) ⟨fun fr H =>
 s' (s' (r3 fr H) ⟨fun fr H =>
  aexit 0 (aloop (l0) fr H)⟩) ⟨fun fr H =>
 s' (r8 fr H) ⟨fun fr H =>
 some (.ret, fr, H)⟩⟩⟩⟩
@[simp] def res (fr : AFr) (H : AHeap) : Option (List AV) := res2 (some (fr 4)) (some [])
end ref02_Same
def ref02_Same (a0 a1 : AV) : Option AV := closeUpR (some [[none]]) (afinR ref02_Same.res (ref02_Same.body (args0 [a0, a1]) AHeap.empty))
def ref02_Same.spec : List AV → Option AV
  | [a0, a1] => ref02_Same a0 a1
  | _ => none
end
end Go.Abs
end
section
set_option linter.unusedVariables false
namespace Go.Abs
noncomputable section
end
end Go.Abs
end
section
set_option linter.unusedVariables false
namespace Go.Abs
noncomputable section
end
end Go.Abs
end
section
set_option linter.unusedVariables false
namespace Go.Abs
noncomputable section
end
end Go.Abs
end
section
set_option linter.unusedVariables false
namespace Go.Abs
noncomputable section
namespace ref01_Bits
def C : Tab := Tab.none
@[simp] def r0 (fr : AFr) (H : AHeap) : ARes :=
 areg (e' [(0, fr 0)] H)
@[simp] def r1 (fr : AFr) (H : AHeap) : ARes :=
 areg (o' (abuildSliceR (some ⟨T.ty_bool, 1, 1, [(.bool false)]⟩) 0 [] H) ⟨fun v5 H =>
 e' [(0, fr 0), (3, v5)] H⟩)
@[simp] def r2 (fr : AFr) (H : AHeap) : ARes :=
 areg (e' [(0, fr 0), (3, fr 3), (4, (.int .i64 0))] H)
@[simp] def r3 (fr : AFr) (H : AHeap) : ARes :=
 areg (q' (bn' .lss (fr 4) (.int .i64 32)) H ⟨fun v7 H =>
 e' [(0, fr 0), (3, fr 3), (4, fr 4), (7, v7)] H⟩)
@[simp] def r5 (fr : AFr) (H : AHeap) : ARes :=
 areg (q' (bn' .rem (fr 0) (W32 2#32)) H ⟨fun v12 H =>
 q' (bn' .eql v12 (W32 1#32)) H ⟨fun v13 H =>
 o' (abuildSliceR (some ⟨T.ty_bool, 1, 1, [(.bool false)]⟩) 1 [(0, v13)] H) ⟨fun v14 H =>
 o' (aappendR (some ⟨T.ty_bool, 1, 1, [(.bool false)]⟩) (fr 3) v14 H) ⟨fun v15 H =>
 e' [(0, fr 0), (3, v15), (4, fr 4)] H⟩⟩⟩⟩)
@[simp] def r6 (fr : AFr) (H : AHeap) : ARes :=
 areg (q' (bn' .quo (fr 0) (W32 2#32)) H ⟨fun v17 H =>
 e' [(0, v17), (3, fr 3), (4, fr 4)] H⟩)
@[simp] def r4 (fr : AFr) (H : AHeap) : ARes :=
 areg (q' (bn' .add (fr 4) (.int .i64 1)) H ⟨fun v9 H =>
 e' [(0, fr 0), (3, fr 3), (4, v9)] H⟩)
@[simp] def r7 (fr : AFr) (H : AHeap) : ARes :=
 areg (e' [(2, (fr 3))] H)
def l0 (fr : AFr) (H : AHeap) : ARes :=
  s' (s' (r3 fr H) ⟨fun fr H =>
 c' (fr 7)
 ⟨some (.normal, fr, H)⟩
 ⟨some (.exit 0, fr, H)⟩⟩) ⟨fun fr H =>
 s' (aexit 1 (s' (r5 fr H) ⟨fun fr H =>
 r6 fr H⟩)) ⟨fun fr H =>
 r4 fr H⟩⟩
@[simp] def body (fr : AFr) (H : AHeap) : ARes :=
  s' (r0 fr H) ⟨fun fr H =>
 s' (r1 fr H) ⟨fun fr H =>
 s' (s' (r2 fr H) ⟨fun fr H =>
  aexit 0 (aloop (l0) fr H)⟩) ⟨fun fr H =>
 s' (r7 fr H) ⟨fun fr H =>
 some (.ret, fr, H)⟩⟩⟩⟩
@[simp] def res (fr : AFr) (H : AHeap) : Option (List AV) := res2 (some (fr 2)) (some [])
end ref01_Bits
def ref01_Bits (a0 : AV) : Option AV := closeUpR (some [[some 1]]) (afinR ref01_Bits.res (ref01_Bits.body (args0 [a0]) AHeap.empty))
def ref01_Bits.spec : List AV → Option AV
  | [a0] => ref01_Bits a0
  | _ => none
namespace ref01_Word
def C : Tab := Tab.none
@[simp] def r0 (fr : AFr) (H : AHeap) : ARes :=
 areg (e' [(0, fr 0)] H)
@[simp] def r1 (fr : AFr) (H : AHeap) : ARes :=
 areg (e' [(0, fr 0), (3, (W32 0#32))] H)
@[simp] def r2 (fr : AFr) (H : AHeap) : ARes :=
 areg (q' (alenR .sl (fr 0)) H ⟨fun v6 H =>
 q' (bn' .sub v6 (.int .i64 1)) H ⟨fun v7 H =>
 e' [(0, fr 0), (3, fr 3), (4, v7)] H⟩⟩)
@[simp] def r3 (fr : AFr) (H : AHeap) : ARes :=
 areg (q' (bn' .geq (fr 4) (.int .i64 0)) H ⟨fun v9 H =>
 e' [(0, fr 0), (3, fr 3), (4, fr 4), (9, v9)] H⟩)
@[simp] def r5 (fr : AFr) (H : AHeap) : ARes :=
 areg (q' (bn' .mul (fr 3) (W32 2#32)) H ⟨fun v13 H =>
 e' [(0, fr 0), (3, v13), (4, fr 4)] H⟩)
@[simp] def r6 (fr : AFr) (H : AHeap) : ARes :=
 areg (q' (aindexAddrR (.sl 1) (fr 0) (fr 4)) H ⟨fun v16 H =>
 q' (ld' v16 H) H ⟨fun v17 H =>
 e' [(0, fr 0), (3, fr 3), (4, fr 4), (17, v17)] H⟩⟩)
@[simp] def r7 (fr : AFr) (H : AHeap) : ARes :=
 areg (q' (bn' .add (fr 3) (W32 1#32)) H ⟨fun v19 H =>
 e' [(0, fr 0), (3, v19), (4, fr 4)] H⟩)
@[simp] def r4 (fr : AFr) (H : AHeap) : ARes :=
 areg (q' (bn' .sub (fr 4) (.int .i64 1)) H ⟨fun v11 H =>
 e' [(0, fr 0), (3, fr 3), (4, v11)] H⟩)
@[simp] def r8 (fr : AFr) (H : AHeap) : ARes :=
 areg (e' [(2, (fr 3))] H)
def l0 (fr : AFr) (H : AHeap) : ARes :=
  s' (s' (r3 fr H) ⟨fun fr H =>
 c' (fr 9)
 ⟨some (.normal, fr, H)⟩
 ⟨some (.exit 0, fr, H)⟩⟩) ⟨fun fr H =>
 s' (aexit 1 (s' (r5 fr H) ⟨fun fr H =>
 s' (r6 fr H) ⟨fun fr H =>
 c' (fr 17)
 ⟨r7 fr H⟩
 ⟨some (.normal, fr, H)⟩⟩⟩)) ⟨fun fr H =>
 r4 fr H⟩⟩
@[simp] def body (fr : AFr) (H : AHeap) : ARes :=
  s' (r0 fr H) ⟨fun fr H =>
 s' (r1 fr H) ⟨fun fr H =>
 s' (s' (r2 fr H) ⟨fun fr H =>
  aexit 0 (aloop (l0) fr H)⟩) ⟨fun fr H =>
 s' (r8 fr H) ⟨fun fr H =>
 some (.ret, fr, H)⟩⟩⟩⟩
@[simp] def res (fr : AFr) (H : AHeap) : Option (List AV) := res2 (some (fr 2)) (some [])
end ref01_Word
def ref01_Word (a0 : AV) : Option AV := closeUpR (some [[none]]) (afinR ref01_Word.res (ref01_Word.body (args0 [a0]) AHeap.empty))
def ref01_Word.spec : List AV → Option AV
  | [a0] => ref01_Word a0
  | _ => none
namespace ref01_Shift
def C (s0 s1 : SpecP) : Tab := ((Tab.none.add 72 (.pure false s0)).add 73 (.pure false s1))
@[simp] def r0 (fr : AFr) (H : AHeap) : ARes :=
 areg (e' [(0, fr 0), (1, fr 1), (2, fr 2), (3, fr 3)] H)
@[simp] def r1 (fr : AFr) (H : AHeap) : ARes :=
 areg (q' (bn' .lss (fr 0) (.int .i64 0)) H ⟨fun v15 H =>
 G' v15 false ⟨some (fr 0)⟩ H ⟨fun v17 H =>
 G' v15 false ⟨bn' .gtr v17 (.int .i64 3)⟩ H ⟨fun v18 H =>
 q' (apick v15 (.bool true) v18) H ⟨fun v19 H =>
 e' [(0, fr 0), (1, fr 1), (2, fr 2), (3, fr 3), (19, v19)] H⟩⟩⟩⟩)
@[simp] def r2 (fr : AFr) (H : AHeap) : ARes :=
 areg (e' [(8, (W32 0#32)), (9, (.bool false))] H)
@[simp] def r3 (fr : AFr) (H : AHeap) : ARes :=
 areg (q' (bn' .eql (fr 0) (.int .i64 3)) H ⟨fun v21 H =>
 G' v21 true ⟨some (fr 2)⟩ H ⟨fun v23 H =>
 G' v21 true ⟨bn' .gtr v23 (W32 64#32)⟩ H ⟨fun v24 H =>
 q' (apick v21 v24 (.bool false)) H ⟨fun v25 H =>
 e' [(0, fr 0), (1, fr 1), (2, fr 2), (3, fr 3), (25, v25)] H⟩⟩⟩⟩)
@[simp] def r4 (fr : AFr) (H : AHeap) : ARes :=
 areg (q' (bn' .rem (fr 2) (W32 32#32)) H ⟨fun v27 H =>
 q' (bn' .add (W32 32#32) v27) H ⟨fun v28 H =>
 e' [(0, fr 0), (1, fr 1), (2, v28), (3, fr 3)] H⟩⟩)
@[simp] def r5 (s0 : SpecP) (fr : AFr) (H : AHeap) : ARes :=
 areg (o' (callP false s0 [[none]] [(fr 1)] H) ⟨fun v30 H =>
 e' [(0, fr 0), (2, fr 2), (3, fr 3), (10, v30)] H⟩)
@[simp] def r6 (fr : AFr) (H : AHeap) : ARes :=
 areg (e' [(0, fr 0), (2, fr 2), (3, fr 3), (10, fr 10), (11, (W32 0#32))] H)
@[simp] def r7 (fr : AFr) (H : AHeap) : ARes :=
 areg (q' (bn' .lss (fr 11) (fr 2)) H ⟨fun v33 H =>
 G' v33 true ⟨some (fr 11)⟩ H ⟨fun v35 H =>
 G' v33 true ⟨bn' .lss v35 (W32 70#32)⟩ H ⟨fun v36 H =>
 q' (apick v33 v36 (.bool false)) H ⟨fun v37 H =>
 e' [(0, fr 0), (2, fr 2), (3, fr 3), (10, fr 10), (11, fr 11), (37, v37)] H⟩⟩⟩⟩)
@[simp] def r9 (fr : AFr) (H : AHeap) : ARes :=
 areg (o' (amakeR (some ⟨T.ty_bool, 1, 1, [(.bool false)]⟩) (.int .i64 32) (.int .i64 32) H) ⟨fun v40 H =>
 e' [(0, fr 0), (2, fr 2), (10, fr 10), (11, fr 11), (12, v40)] H⟩)
@[simp] def r10 (fr : AFr) (H : AHeap) : ARes :=
 areg (e' [(0, fr 0), (2, fr 2), (10, fr 10), (11, fr 11), (12, fr 12), (13, (.int .i64 0))] H)
@[simp] def r11 (fr : AFr) (H : AHeap) : ARes :=
 areg (q' (bn' .lss (fr 13) (.int .i64 32)) H ⟨fun v42 H =>
 e' [(0, fr 0), (2, fr 2), (10, fr 10), (11, fr 11), (12, fr 12), (13, fr 13), (42, v42)] H⟩)
@[simp] def r13 (fr : AFr) (H : AHeap) : ARes :=
 areg (q' (bn' .eql (fr 0) (.int .i64 0)) H ⟨fun v46 H =>
 G' v46 true ⟨some (fr 13)⟩ H ⟨fun v48 H =>
 G' v46 true ⟨bn' .gtr v48 (.int .i64 0)⟩ H ⟨fun v49 H =>
 q' (apick v46 v49 (.bool false)) H ⟨fun v50 H =>
 e' [(0, fr 0), (2, fr 2), (10, fr 10), (11, fr 11), (12, fr 12), (13, fr 13), (50, v50)] H⟩⟩⟩⟩)
@[simp] def r14 (fr : AFr) (H : AHeap) : ARes :=
 areg (q' (bn' .sub (fr 13) (.int .i64 1)) H ⟨fun v55 H =>
 q' (aindexAddrR (.sl 1) (fr 10) v55) H ⟨fun v56 H =>
 q' (ld' v56 H) H ⟨fun v57 H =>
 q' (aindexAddrR (.sl 1) (fr 12) (fr 13)) H ⟨fun v58 H =>
 w' (astoreR (some 1) v58 v57 H) ⟨fun _ H =>
 e' [(0, fr 0), (2, fr 2), (10, fr 10), (11, fr 11), (12, fr 12), (13, fr 13)] H⟩⟩⟩⟩⟩)
@[simp] def r15 (fr : AFr) (H : AHeap) : ARes :=
 areg (q' (bn' .gtr (fr 0) (.int .i64 0)) H ⟨fun v60 H =>
 G' v60 true ⟨some (fr 13)⟩ H ⟨fun v62 H =>
 G' v60 true ⟨bn' .lss v62 (.int .i64 31)⟩ H ⟨fun v63 H =>
 q' (apick v60 v63 (.bool false)) H ⟨fun v64 H =>
 e' [(0, fr 0), (2, fr 2), (10, fr 10), (11, fr 11), (12, fr 12), (13, fr 13), (64, v64)] H⟩⟩⟩⟩)
@[simp] def r16 (fr : AFr) (H : AHeap) : ARes :=
 areg (q' (bn' .add (fr 13) (.int .i64 1)) H ⟨fun v69 H =>
 q' (aindexAddrR (.sl 1) (fr 10) v69) H ⟨fun v70 H =>
 q' (ld' v70 H) H ⟨fun v71 H =>
 q' (aindexAddrR (.sl 1) (fr 12) (fr 13)) H ⟨fun v72 H =>
 w' (astoreR (some 1) v72 v71 H) ⟨fun _ H =>
 e' [(0, fr 0), (2, fr 2), (10, fr 10), (11, fr 11), (12, fr 12), (13, fr 13)] H⟩⟩⟩⟩⟩)
@[simp] def r12 (fr : AFr) (H : AHeap) : ARes :=
 areg (q' (bn' .add (fr 13) (.int .i64 1)) H ⟨fun v44 H =>
 e' [(0, fr 0), (2, fr 2), (10, fr 10), (11, fr 11), (12, fr 12), (13, v44)] H⟩)
@[simp] def r17 (fr : AFr) (H : AHeap) : ARes :=
 areg (q' (bn' .eql (fr 0) (.int .i64 0)) H ⟨fun v74 H =>
 e' [(0, fr 0), (2, fr 2), (10, fr 10), (11, fr 11), (12, fr 12), (74, v74)] H⟩)
@[simp] def r18 (fr : AFr) (H : AHeap) : ARes :=
 areg (q' (aindexAddrR (.sl 1) (fr 10) (.int .i64 31)) H ⟨fun v76 H =>
 q' (ld' v76 H) H ⟨fun v77 H =>
 e' [(0, fr 0), (2, fr 2), (3, v77), (10, fr 10), (11, fr 11), (12, fr 12)] H⟩⟩)
@[simp] def r19 (fr : AFr) (H : AHeap) : ARes :=
 areg (q' (aindexAddrR (.sl 1) (fr 10) (.int .i64 0)) H ⟨fun v79 H =>
 q' (ld' v79 H) H ⟨fun v80 H =>
 e' [(0, fr 0), (2, fr 2), (3, v80), (10, fr 10), (11, fr 11), (12, fr 12)] H⟩⟩)
@[simp] def r20 (fr : AFr) (H : AHeap) : ARes :=
 areg (q' (bn' .eql (fr 0) (.int .i64 2)) H ⟨fun v82 H =>
 e' [(0, fr 0), (2, fr 2), (3, fr 3), (10, fr 10), (11, fr 11), (12, fr 12), (82, v82)] H⟩)
@[simp] def r21 (fr : AFr) (H : AHeap) : ARes :=
 areg (q' (aindexAddrR (.sl 1) (fr 10) (.int .i64 31)) H ⟨fun v85 H =>
 q' (ld' v85 H) H ⟨fun v86 H =>
 q' (aindexAddrR (.sl 1) (fr 12) (.int .i64 31)) H ⟨fun v87 H =>
 w' (astoreR (some 1) v87 v86 H) ⟨fun _ H =>
 e' [(0, fr 0), (2, fr 2), (3, fr 3), (10, fr 10), (11, fr 11), (12, fr 12)] H⟩⟩⟩⟩)
@[simp] def r22 (fr : AFr) (H : AHeap) : ARes :=
 areg (q' (bn' .eql (fr 0) (.int .i64 3)) H ⟨fun v89 H =>
 e' [(0, fr 0), (2, fr 2), (3, fr 3), (10, fr 10), (11, fr 11), (12, fr 12), (89, v89)] H⟩)
@[simp] def r23 (fr : AFr) (H : AHeap) : ARes :=
 areg (q' (aindexAddrR (.sl 1) (fr 10) (.int .i64 0)) H ⟨fun v92 H =>
 q' (ld' v92 H) H ⟨fun v93 H =>
 q' (aindexAddrR (.sl 1) (fr 12) (.int .i64 31)) H ⟨fun v94 H =>
 w' (astoreR (some 1) v94 v93 H) ⟨fun _ H =>
 e' [(0, fr 0), (2, fr 2), (3, fr 3), (11, fr 11), (12, fr 12)] H⟩⟩⟩⟩)
@[simp] def r24 (fr : AFr) (H : AHeap) : ARes :=
 areg (e' [(0, fr 0), (2, fr 2), (3, fr 3), (10, (fr 12)), (11, fr 11)] H)
@[simp] def r8 (fr : AFr) (H : AHeap) : ARes :=
 areg (q' (bn' .add (fr 11) (W32 1#32)) H ⟨fun v39 H =>
 e' [(0, fr 0), (2, fr 2), (3, fr 3), (10, fr 10), (11, v39)] H⟩)
@[simp] def r25 (s1 : SpecP) (fr : AFr) (H : AHeap) : ARes :=
 areg (o' (callP false s1 [[some 1]] [(fr 10)] H) ⟨fun v97 H =>
 e' [(8, v97), (9, (fr 3))] H⟩)
def l1 (s0 s1 : SpecP) (fr : AFr) (H : AHeap) : ARes :=
  s' (s' (r11 fr H) ⟨fun fr H =>
 c' (fr 42)
 ⟨some (.normal, fr, H)⟩
 ⟨some (.exit 2, fr, H)⟩⟩) ⟨fun fr H =>
 s' (aexit 3 (s' (s' (r13 fr H) ⟨fun fr H =>
 c' (fr 50)
 ⟨r14 fr H⟩
 ⟨some (.normal, fr, H)⟩⟩) ⟨fun fr H =>
 s' (r15 fr H) ⟨fun fr H =>
 c' (fr 64)
 ⟨r16 fr H⟩
 ⟨some (.normal, fr, H)⟩⟩⟩)) ⟨fun fr H =>
 r12 fr H⟩⟩
def l0 (s0 s1 : SpecP) (fr : AFr) (H : AHeap) : ARes :=
  s' (s' (r7 fr H) ⟨fun fr H =>
 c' (fr 37)
 ⟨some (.normal, fr, H)⟩
 ⟨some (.exit 0, fr, H)⟩⟩) ⟨fun fr H =>
 s' (aexit 1 (s' (r9 fr H) ⟨fun fr H =>
 s' (s' (r10 fr H) ⟨fun fr H =>
  aexit 2 (aloop (l1 s0 s1) fr H)⟩) ⟨fun fr H =>
 s' (s' (r17 fr H) ⟨fun fr H =>
 c' (fr 74)
 ⟨r18 fr H⟩
 ⟨r19 fr H⟩⟩) ⟨fun fr H =>
 s' (s' (r20 fr H) ⟨fun fr H =>
 c' (fr 82)
 ⟨r21 fr H⟩
 ⟨some (.normal, fr, H)⟩⟩) ⟨fun fr H =>
 s' (s' (r22 fr H) ⟨fun fr H =>
 c' (fr 89)
 ⟨r23 fr H⟩
 ⟨some (.normal, fr, H)⟩⟩) ⟨fun fr H =>
 r24 fr H⟩⟩⟩⟩⟩)) ⟨fun fr H =>
 r8 fr H⟩⟩
@[simp] def body (s0 s1 : SpecP) (fr : AFr) (H : AHeap) : ARes :=
  s' (r0 fr H) ⟨fun fr H =>
 s' (s' (r1 fr H) ⟨fun fr H =>
 c' (fr 19)
 ⟨s' (r2 fr H) ⟨fun fr H =>
 some (.ret, fr, H)⟩⟩
 ⟨some (.normal, fr, H)⟩⟩) ⟨fun fr H =>
 s' (s' (r3 fr H) ⟨fun fr H =>
 c' (fr 25)
 ⟨r4 fr H⟩
 ⟨some (.normal, fr, H)⟩⟩) ⟨fun fr H =>
 s' (r5 s0 fr H) ⟨fun fr H =>
 s' (s' (r6 fr H) ⟨fun fr H =>
  aexit 0 (aloop (l0 s0 s1) fr H)⟩) ⟨fun fr H =>
 s' (r25 s1 fr H) ⟨fun fr H =>
 some (.ret, fr, H)⟩⟩⟩⟩⟩⟩
@[simp] def res (fr : AFr) (H : AHeap) : Option (List AV) := res2 (some (fr 8)) (res2 (some (fr 9)) (some []))
end ref01_Shift
def ref01_Shift (a0 a1 a2 a3 : AV) : Option AV := closeUpR (some [[none], [none]]) (afinR ref01_Shift.res (ref01_Shift.body ref01_Bits.spec ref01_Word.spec (args0 [a0, a1, a2, a3]) AHeap.empty))
def ref01_Shift.spec : List AV → Option AV
  | [a0, a1, a2, a3] => ref01_Shift a0 a1 a2 a3
  | _ => none
namespace ref01_Rot
def C (s0 s1 : SpecP) : Tab := ((Tab.none.add 72 (.pure false s0)).add 73 (.pure false s1))
@[simp] def r0 (fr : AFr) (H : AHeap) : ARes :=
 areg (e' [(0, fr 0), (1, fr 1)] H)
@[simp] def r1 (s0 : SpecP) (fr : AFr) (H : AHeap) : ARes :=
 areg (o' (callP false s0 [[none]] [(fr 0)] H) ⟨fun v8 H =>
 e' [(1, fr 1), (5, v8)] H⟩)
@[simp] def r2 (fr : AFr) (H : AHeap) : ARes :=
 areg (e' [(1, fr 1), (5, fr 5), (6, (W32 0#32))] H)
@[simp] def r3 (fr : AFr) (H : AHeap) : ARes :=
 areg (q' (bn' .rem (fr 1) (W32 32#32)) H ⟨fun v11 H =>
 q' (bn' .lss (fr 6) v11) H ⟨fun v12 H =>
 e' [(1, fr 1), (5, fr 5), (6, fr 6), (12, v12)] H⟩⟩)
@[simp] def r5 (fr : AFr) (H : AHeap) : ARes :=
 areg (q' (some (fr 5)) H ⟨fun v15 H1 =>
 q' (aindexAddrR (.sl 1) v15 (.int .i64 31)) H1 ⟨fun v16 H2 =>
 q' (ld' v16 H2) H2 ⟨fun v17 H3 =>
 o' (abuildSliceR (some ⟨T.ty_bool, 1, 1, [(.bool false)]⟩) 1 [(0, v17)] H3) ⟨fun v18 H4 =>
 q' (some (fr 5)) H4 ⟨fun v19 H5 =>
 q' (asliceR (.sl 1) v19 none (some (.int .i64 31)) none) H5 ⟨fun v20 H6 =>
 o' (aappendR (some ⟨T.ty_bool, 1, 1, [(.bool false)]⟩) v18 v20 H6) ⟨fun v21 H7 =>
 q' (some v21) H7 ⟨fun v5 H8 =>
 e' [(1, fr 1), (5, v5), (6, fr 6)] H8⟩⟩⟩⟩⟩⟩⟩⟩)
@[simp] def r4 (fr : AFr) (H : AHeap) : ARes :=
 areg (q' (bn' .add (fr 6) (W32 1#32)) H ⟨fun v14 H =>
 e' [(1, fr 1), (5, fr 5), (6, v14)] H⟩)
@[simp] def r6 (s1 : SpecP) (fr : AFr) (H : AHeap) : ARes :=
 areg (o' (callP false s1 [[some 1]] [(fr 5)] H) ⟨fun v23 H =>
 e' [(4, v23)] H⟩)
def l0 (s0 s1 : SpecP) (fr : AFr) (H : AHeap) : ARes :=
  s' (s' (r3 fr H) ⟨fun fr H =>
 c' (fr 12)
 ⟨some (.normal, fr, H)⟩
 ⟨some (.exit 0, fr, H)⟩⟩) ⟨fun fr H =>
 s' (aexit 1 (r5 fr H)) ⟨fun fr H =>
 r4 fr H⟩⟩
@[simp] def body (s0 s1 : SpecP) (fr : AFr) (H : AHeap) : ARes :=
  s' (r0 fr H) ⟨fun fr H =>
 s' (r1 s0 fr H) ⟨fun fr H =>
 s' (s' (r2 fr H) ⟨fun fr H =>
  aexit 0 (aloop (l0 s0 s1) fr H)⟩) ⟨fun fr H =>
 s' (r6 s1 fr H) ⟨fun fr H =>
 some (.ret, fr, H)⟩⟩⟩⟩
@[simp] def res (fr : AFr) (H : AHeap) : Option (List AV) := res2 (some (fr 4)) (some [])
end ref01_Rot
def ref01_Rot (a0 a1 : AV) : Option AV := closeUpR (some [[none]]) (afinR ref01_Rot.res (ref01_Rot.body ref01_Bits.spec ref01_Word.spec (args0 [a0, a1]) AHeap.empty))
def ref01_Rot.spec : List AV → Option AV
  | [a0, a1] => ref01_Rot a0 a1
  | _ => none
end
end Go.Abs
end
