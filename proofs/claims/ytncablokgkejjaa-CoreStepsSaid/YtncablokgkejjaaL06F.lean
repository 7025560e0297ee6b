/-
  The functions, as they are over abstract values. Printed by gen.py.
-/
import Derived.Test.YtncablokgkejjaaLoF
import Derived.Test.YtncablokgkejjaaCoF
import Derived.Test.YtncablokgkejjaaCrF
set_option linter.unusedVariables false
namespace Go.Abs
noncomputable section
namespace law06_lives
def C (s0 s1 : SpecM) : Tab := ((Tab.none.add 15 (.ref [true, false, true] s0)).add 17 (.ref [true, false] s1))
@[simp] def r0 (fr : AFr) (H : AHeap) : ARes :=
 areg (some (AFr.al [], H))
@[simp] def r1 (s0 : SpecM) (fr : AFr) (H : AHeap) : ARes :=
 areg (@opi _ (abuildSliceR (some ⟨T.ty_uint16, 1, 2, [(W16 0#16)]⟩) 1 [(0, (W16 12289#16))] H) ⟨fun v5 H =>
 @opi _ (callM [true, false, true] s0 [[some 1], [none], [some 1]] [v5, (.int .i64 1), .nils] H) ⟨fun v6 H =>
 some (AFr.al [(1, v6)], H)⟩⟩)
@[simp] def r2 (s1 : SpecM) (fr : AFr) (H : AHeap) : ARes :=
 areg (@opi _ (lift (abuildR (.arr [(W32 0#32), (W32 0#32), (W32 0#32), (W32 0#32), (W32 0#32), (W32 0#32), (W32 0#32), (W32 0#32)] 1) [(0, (W32 4294967295#32))]) H) ⟨fun v8 H =>
 @opi _ (lift (abuildR (.str [(W32 0#32), (W32 0#32), (W32 0#32), (W32 0#32), (W32 0#32), (W32 0#32), (W32 0#32), (W32 0#32), (W32 0#32), (.bool false), (.bool false), (.bool false), (.bool false)] [(0, 8), (8, 1), (9, 1), (10, 1), (11, 1), (12, 1)]) [(0, v8)]) H) ⟨fun v9 H =>
 @opi _ (callM [true, false] s1 [[none, none, none, none, none, none, none, none, none, none, none, none, none], [none]] [v9, (fr 1)] H) ⟨fun v11 H =>
 @opi _ (lift (aextract v11 0) H) ⟨fun v12 H =>
 @opi _ (lift (aextract v11 1) H) ⟨fun v13 H =>
 @opi _ (lift (aextract v11 2) H) ⟨fun v14 H =>
 @opi _ (aallocR T.ty_api_State (some (.agg [(W32 0#32), (W32 0#32), (W32 0#32), (W32 0#32), (W32 0#32), (W32 0#32), (W32 0#32), (W32 0#32), (W32 0#32), (.bool false), (.bool false), (.bool false), (.bool false)])) H) ⟨fun v2 H =>
 @opi _ (liftS (astoreR (some 13) v2 v12 H)) ⟨fun _ H =>
 some (AFr.al [(2, v2), (3, v13), (4, v14)], H)⟩⟩⟩⟩⟩⟩⟩⟩)
@[simp] def r3 (fr : AFr) (H : AHeap) : ARes :=
 areg (@opi _ (lift (afieldAddrR (some 0) (fr 2)) H) ⟨fun v15 H =>
 @opi _ (lift (aindexAddrR (.arr 8 1) v15 (.int .i64 0)) H) ⟨fun v16 H =>
 @opi _ (lift (aloadR (some none) v16 H) H) ⟨fun v17 H =>
 @opi _ (lift (abinR .x .eql v17 (W32 0#32)) H) ⟨fun v18 H =>
 @opi _ (@gdi (gw v18 true) ⟨lift (afieldAddrR (some 10) (fr 2)) H⟩ H) ⟨fun v20 H =>
 @opi _ (@gdi (gw v18 true) ⟨lift (aloadR (some none) v20 H) H⟩ H) ⟨fun v21 H =>
 @opi _ (lift (apick v18 v21 (.bool false)) H) ⟨fun v22 H =>
 @opi _ (@gdi (gw v22 true) ⟨lift (afieldAddrR (some 11) (fr 2)) H⟩ H) ⟨fun v24 H =>
 @opi _ (@gdi (gw v22 true) ⟨lift (aloadR (some none) v24 H) H⟩ H) ⟨fun v25 H =>
 @opi _ (lift (apick v22 v25 (.bool false)) H) ⟨fun v26 H =>
 @opi _ (@gdi (gw v26 true) ⟨lift (afieldAddrR (some 8) (fr 2)) H⟩ H) ⟨fun v28 H =>
 @opi _ (@gdi (gw v26 true) ⟨lift (aloadR (some none) v28 H) H⟩ H) ⟨fun v29 H =>
 @opi _ (@gdi (gw v26 true) ⟨lift (abinR .x .eql v29 (W32 2#32)) H⟩ H) ⟨fun v30 H =>
 @opi _ (lift (apick v26 v30 (.bool false)) H) ⟨fun v31 H =>
 @opi _ (@gdi (gw v31 true) ⟨lift (some (fr 3)) H⟩ H) ⟨fun v33 H =>
 @opi _ (@gdi (gw v31 true) ⟨lift (aun .not v33) H⟩ H) ⟨fun v34 H =>
 @opi _ (lift (apick v31 v34 (.bool false)) H) ⟨fun v35 H =>
 @opi _ (@gdi (gw v35 true) ⟨lift (some (fr 4)) H⟩ H) ⟨fun v37 H =>
 @opi _ (@gdi (gw v35 true) ⟨lift (abinR .x .eql v37 (.int .i64 0)) H⟩ H) ⟨fun v38 H =>
 @opi _ (lift (apick v35 v38 (.bool false)) H) ⟨fun v39 H =>
 some (AFr.al [(0, v39)], H)⟩⟩⟩⟩⟩⟩⟩⟩⟩⟩⟩⟩⟩⟩⟩⟩⟩⟩⟩⟩)
@[simp] def body (s0 s1 : SpecM) (fr : AFr) (H : AHeap) : ARes :=
  @aseqi (r0 fr H) ⟨fun fr H =>
 @aseqi (r1 s0 fr H) ⟨fun fr H =>
 @aseqi (r2 s1 fr H) ⟨fun fr H =>
 @aseqi (r3 fr H) ⟨fun fr H =>
 some (.ret, fr, H)⟩⟩⟩⟩
@[simp] def res (fr : AFr) (H : AHeap) : Option (List AV) := res2 (some (fr 0)) (some [])
end law06_lives
def law06_lives : Option AV := closeUpR (some [[none]]) (afinR law06_lives.res (law06_lives.body mem_New.spec core_Step.spec (args0 []) AHeap.empty))
def law06_lives.spec : List AV → Option AV
  | [] => law06_lives
  | _ => none
namespace law06_CoreRuns
def C (s0 s1 s2 s3 s4 : SpecM) (s5 s6 : SpecP) : Tab := (((((((Tab.none.add 15 (.ref [true, false, true] s0)).add 16 (.ref [true, false, true] s1)).add 17 (.ref [true, false] s2)).add 18 (.ref [true, false] s3)).add 20 (.ref [false] s4)).add 19 (.pure false s5)).add 21 (.pure false s6))
@[simp] def r0 (fr : AFr) (H : AHeap) : ARes :=
 areg (@opi _ (abox T.ty_api_State (fr 1) H) ⟨fun v4 H =>
 some (AFr.al [(0, fr 0), (2, fr 2), (4, v4)], H)⟩)
@[simp] def r1 (fr : AFr) (H : AHeap) : ARes :=
 areg (@opi _ (lift (alenR .sl (fr 0)) H) ⟨fun v17 H =>
 @opi _ (lift (abinR .x .gtr v17 (.int .i64 60)) H) ⟨fun v18 H =>
 some (AFr.al [(0, fr 0), (2, fr 2), (4, fr 4), (18, v18)], H)⟩⟩)
@[simp] def r2 (fr : AFr) (H : AHeap) : ARes :=
 areg (@opi _ (lift (asliceR (.sl 1) (fr 0) none (some (.int .i64 60)) none) H) ⟨fun v20 H =>
 some (AFr.al [(0, v20), (2, fr 2), (4, fr 4)], H)⟩)
@[simp] def r3 (fr : AFr) (H : AHeap) : ARes :=
 areg (@opi _ (lift (alenR .sl (fr 2)) H) ⟨fun v22 H =>
 @opi _ (lift (abinR .x .gtr v22 (.int .i64 30)) H) ⟨fun v23 H =>
 some (AFr.al [(0, fr 0), (2, fr 2), (4, fr 4), (23, v23)], H)⟩⟩)
@[simp] def r4 (fr : AFr) (H : AHeap) : ARes :=
 areg (@opi _ (lift (asliceR (.sl 1) (fr 2) none (some (.int .i64 30)) none) H) ⟨fun v25 H =>
 some (AFr.al [(0, fr 0), (2, v25), (4, fr 4)], H)⟩)
@[simp] def r5 (s0 s1 : SpecM) (fr : AFr) (H : AHeap) : ARes :=
 areg (@opi _ (abuildSliceR (some ⟨T.ty_uint16, 1, 2, [(W16 0#16)]⟩) 0 [] H) ⟨fun v26 H =>
 @opi _ (aappendR (some ⟨T.ty_uint16, 1, 2, [(W16 0#16)]⟩) v26 (fr 0) H) ⟨fun v28 H =>
 @opi _ (abuildSliceR (some ⟨T.ty_uint32, 1, 4, [(W32 0#32)]⟩) 0 [] H) ⟨fun v29 H =>
 @opi _ (aappendR (some ⟨T.ty_uint32, 1, 4, [(W32 0#32)]⟩) v29 (fr 2) H) ⟨fun v31 H =>
 @opi _ (callM [true, false, true] s0 [[some 1], [none], [some 1]] [v28, (.int .i64 4), v31] H) ⟨fun v32 H =>
 @opi _ (callM [true, false, true] s1 [[some 1], [none], [some 1]] [(fr 0), (.int .i64 4), (fr 2)] H) ⟨fun v35 H =>
 some (AFr.al [(4, fr 4), (7, v32), (8, v35)], H)⟩⟩⟩⟩⟩⟩)
@[simp] def r6 (fr : AFr) (H : AHeap) : ARes :=
 areg (@opi _ (lift (abinR .p .eql (fr 7) .nilp) H) ⟨fun v37 H =>
 some (AFr.al [(4, fr 4), (7, fr 7), (8, fr 8), (37, v37)], H)⟩)
@[simp] def r7 (fr : AFr) (H : AHeap) : ARes :=
 areg (some (AFr.al [(6, (.bool false))], H))
@[simp] def r8 (fr : AFr) (H : AHeap) : ARes :=
 areg (@opi _ (lift (afieldAddrR (some 8) (fr 4)) H) ⟨fun v38 H =>
 @opi _ (liftS (astoreR (some 1) v38 (W32 0#32) H)) ⟨fun _ H =>
 some (AFr.al [(4, fr 4), (7, fr 7), (8, fr 8)], H)⟩⟩)
@[simp] def r9 (fr : AFr) (H : AHeap) : ARes :=
 areg (some (AFr.al [(4, fr 4), (7, fr 7), (8, fr 8), (9, (.int .i64 0))], H))
@[simp] def r10 (fr : AFr) (H : AHeap) : ARes :=
 areg (@opi _ (lift (abinR .x .lss (fr 9) (.int .i64 80)) H) ⟨fun v40 H =>
 some (AFr.al [(4, fr 4), (7, fr 7), (8, fr 8), (9, fr 9), (40, v40)], H)⟩)
@[simp] def r12 (s2 : SpecM) (fr : AFr) (H : AHeap) : ARes :=
 areg (@opi _ (lift (aloadR (some (some 13)) (fr 4) H) H) ⟨fun v44 H =>
 @opi _ (callM [true, false] s2 [[none, none, none, none, none, none, none, none, none, none, none, none, none], [none]] [v44, (fr 7)] H) ⟨fun v46 H =>
 @opi _ (lift (aextract v46 0) H) ⟨fun v47 H =>
 @opi _ (lift (aextract v46 1) H) ⟨fun v48 H =>
 @opi _ (lift (aextract v46 2) H) ⟨fun v49 H =>
 @opi _ (aallocR T.ty_api_State (some (.agg [(W32 0#32), (W32 0#32), (W32 0#32), (W32 0#32), (W32 0#32), (W32 0#32), (W32 0#32), (W32 0#32), (W32 0#32), (.bool false), (.bool false), (.bool false), (.bool false)])) H) ⟨fun v10 H =>
 @opi _ (liftS (astoreR (some 13) v10 v47 H)) ⟨fun _ H =>
 some (AFr.al [(4, fr 4), (7, fr 7), (8, fr 8), (9, fr 9), (10, v10), (11, v48), (12, v49)], H)⟩⟩⟩⟩⟩⟩⟩)
@[simp] def r13 (s3 : SpecM) (fr : AFr) (H : AHeap) : ARes :=
 areg (@opi _ (lift (aloadR (some (some 13)) (fr 4) H) H) ⟨fun v51 H =>
 @opi _ (callM [true, false] s3 [[none, none, none, none, none, none, none, none, none, none, none, none, none], [none]] [v51, (fr 8)] H) ⟨fun v53 H =>
 @opi _ (lift (aextract v53 0) H) ⟨fun v54 H =>
 @opi _ (lift (aextract v53 1) H) ⟨fun v55 H =>
 @opi _ (lift (aextract v53 2) H) ⟨fun v56 H =>
 @opi _ (aallocR T.ty_api_State (some (.agg [(W32 0#32), (W32 0#32), (W32 0#32), (W32 0#32), (W32 0#32), (W32 0#32), (W32 0#32), (W32 0#32), (W32 0#32), (.bool false), (.bool false), (.bool false), (.bool false)])) H) ⟨fun v13 H =>
 @opi _ (liftS (astoreR (some 13) v13 v54 H)) ⟨fun _ H =>
 some (AFr.al [(4, fr 4), (7, fr 7), (8, fr 8), (9, fr 9), (10, fr 10), (11, fr 11), (12, fr 12), (13, v13), (14, v55), (15, v56)], H)⟩⟩⟩⟩⟩⟩⟩)
@[simp] def r14 (s4 : SpecM) (s5 : SpecP) (fr : AFr) (H : AHeap) : ARes :=
 areg (@opi _ (lift (aloadR (some (some 13)) (fr 10) H) H) ⟨fun v57 H1 =>
 @opi _ (lift (aloadR (some (some 13)) (fr 13) H1) H1) ⟨fun v58 H2 =>
 @opi _ (lift (abinR (.c [.i, .i, .i, .i, .i, .i, .i, .i, .i, .b, .b, .b, .b]) .neq v57 v58) H2) ⟨fun v59 H3 =>
 @opi _ (lift (some v59) H3) ⟨fun v60 H4 =>
 @opi _ (@gdi (gw v60 false) ⟨lift (some (fr 11)) H4⟩ H4) ⟨fun v61 H5 =>
 @opi _ (@gdi (gw v60 false) ⟨lift (some (fr 14)) H5⟩ H5) ⟨fun v62 H6 =>
 @opi _ (@gdi (gw v60 false) ⟨lift (abinR .b .neq v61 v62) H6⟩ H6) ⟨fun v63 H7 =>
 @opi _ (lift (apick v60 (.bool true) v63) H7) ⟨fun v64 H8 =>
 @opi _ (lift (some v64) H8) ⟨fun v65 H9 =>
 @opi _ (@gdi (gw v65 false) ⟨lift (some (fr 12)) H9⟩ H9) ⟨fun v66 H10 =>
 @opi _ (@gdi (gw v65 false) ⟨lift (some (fr 15)) H10⟩ H10) ⟨fun v67 H11 =>
 @opi _ (@gdi (gw v65 false) ⟨lift (abinR .x .neq v66 v67) H11⟩ H11) ⟨fun v68 H12 =>
 @opi _ (lift (apick v65 (.bool true) v68) H12) ⟨fun v69 H13 =>
 @opi _ (lift (some v69) H13) ⟨fun v70 H14 =>
 @opi _ (@gdi (gw v70 false) ⟨lift (some (fr 7)) H14⟩ H14) ⟨fun v71 H15 =>
 @opi _ (san H15 (@gdi (gw v70 false) ⟨callM [false] s4 [[none]] [v71] H15⟩ H15)) ⟨fun v72 H16 =>
 @opi _ (@gdi (gw v70 false) ⟨lift (some (fr 8)) H16⟩ H16) ⟨fun v73 H17 =>
 @opi _ (@gdi (gw v70 false) ⟨lift (anil v73) H17⟩ H17) ⟨fun v74 H18 =>
 @opi _ (@gdi (gw v70 false) ⟨lift (afieldAddrR (some 1) v74) H18⟩ H18) ⟨fun v75 H19 =>
 @opi _ (@gdi (gw v70 false) ⟨lift (aloadR (some none) v75 H19) H19⟩ H19) ⟨fun v76 H20 =>
 @opi _ (@gdi (gw v70 false) ⟨callP false s5 [[some 1], [some 1]] [v72, v76] H20⟩ H20) ⟨fun v77 H21 =>
 @opi _ (@gdi (gw v70 false) ⟨lift (aun .not v77) H21⟩ H21) ⟨fun v78 H22 =>
 @opi _ (lift (apick v70 (.bool true) v78) H22) ⟨fun v79 H23 =>
 withChk [aloadR (some none) v75 H15 = aloadR (some none) v75 H16] (some (AFr.al [(4, fr 4), (7, fr 7), (8, fr 8), (9, fr 9), (10, fr 10), (11, fr 11), (12, fr 12), (79, v79)], H23))⟩⟩⟩⟩⟩⟩⟩⟩⟩⟩⟩⟩⟩⟩⟩⟩⟩⟩⟩⟩⟩⟩⟩)
@[simp] def r15 (fr : AFr) (H : AHeap) : ARes :=
 areg (some (AFr.al [(6, (.bool false))], H))
@[simp] def r16 (fr : AFr) (H : AHeap) : ARes :=
 areg (@opi _ (@gdi (gw (fr 11) false) ⟨lift (some (fr 12)) H⟩ H) ⟨fun v82 H =>
 @opi _ (@gdi (gw (fr 11) false) ⟨lift (abinR .x .neq v82 (.int .i64 0)) H⟩ H) ⟨fun v83 H =>
 @opi _ (lift (apick (fr 11) (.bool true) v83) H) ⟨fun v84 H =>
 some (AFr.al [(4, fr 4), (7, fr 7), (8, fr 8), (9, fr 9), (10, fr 10), (84, v84)], H)⟩⟩⟩)
@[simp] def r17 (s6 : SpecP) (fr : AFr) (H : AHeap) : ARes :=
 areg (@opi _ (lift (aloadR (some (some 13)) (fr 10) H) H) ⟨fun v85 H =>
 @opi _ (lift (aloadR (some (some 13)) (fr 4) H) H) ⟨fun v86 H =>
 @opi _ (lift (abinR (.c [.i, .i, .i, .i, .i, .i, .i, .i, .i, .b, .b, .b, .b]) .eql v85 v86) H) ⟨fun v87 H =>
 @opi _ (@gdi (gw v87 true) ⟨callP false s6 [] [] H⟩ H) ⟨fun v89 H =>
 @opi _ (lift (apick v87 v89 (.bool false)) H) ⟨fun v90 H =>
 some (AFr.al [(6, v90)], H)⟩⟩⟩⟩⟩)
@[simp] def r18 (fr : AFr) (H : AHeap) : ARes :=
 areg (@opi _ (lift (aloadR (some (some 13)) (fr 10) H) H) ⟨fun v91 H =>
 @opi _ (liftS (astoreR (some 13) (fr 4) v91 H)) ⟨fun _ H =>
 some (AFr.al [(4, fr 4), (7, fr 7), (8, fr 8), (9, fr 9)], H)⟩⟩)
@[simp] def r11 (fr : AFr) (H : AHeap) : ARes :=
 areg (@opi _ (lift (abinR .x .add (fr 9) (.int .i64 1)) H) ⟨fun v42 H =>
 some (AFr.al [(4, fr 4), (7, fr 7), (8, fr 8), (9, v42)], H)⟩)
@[simp] def r19 (s6 : SpecP) (fr : AFr) (H : AHeap) : ARes :=
 areg (@opi _ (callP false s6 [] [] H) ⟨fun v92 H =>
 some (AFr.al [(6, v92)], H)⟩)
def l0 (s0 s1 s2 s3 s4 : SpecM) (s5 s6 : SpecP) (fr : AFr) (H : AHeap) : ARes :=
  @aseqi (@aseqi (r10 fr H) ⟨fun fr H =>
 @acondi (fr 40)
 ⟨some (.normal, fr, H)⟩
 ⟨some (.exit 0, fr, H)⟩⟩) ⟨fun fr H =>
 @aseqi (aexit 1 (@aseqi (r12 s2 fr H) ⟨fun fr H =>
 @aseqi (r13 s3 fr H) ⟨fun fr H =>
 @aseqi (@aseqi (r14 s4 s5 fr H) ⟨fun fr H =>
 @acondi (fr 79)
 ⟨@aseqi (r15 fr H) ⟨fun fr H =>
 some (.ret, fr, H)⟩⟩
 ⟨some (.normal, fr, H)⟩⟩) ⟨fun fr H =>
 @aseqi (@aseqi (r16 fr H) ⟨fun fr H =>
 @acondi (fr 84)
 ⟨@aseqi (r17 s6 fr H) ⟨fun fr H =>
 some (.ret, fr, H)⟩⟩
 ⟨some (.normal, fr, H)⟩⟩) ⟨fun fr H =>
 r18 fr H⟩⟩⟩⟩)) ⟨fun fr H =>
 r11 fr H⟩⟩
@[simp] def body (s0 s1 s2 s3 s4 : SpecM) (s5 s6 : SpecP) (fr : AFr) (H : AHeap) : ARes :=
  @aseqi (r0 fr H) ⟨fun fr H =>
 @aseqi (@aseqi (r1 fr H) ⟨fun fr H =>
 @acondi (fr 18)
 ⟨r2 fr H⟩
 ⟨some (.normal, fr, H)⟩⟩) ⟨fun fr H =>
 @aseqi (@aseqi (r3 fr H) ⟨fun fr H =>
 @acondi (fr 23)
 ⟨r4 fr H⟩
 ⟨some (.normal, fr, H)⟩⟩) ⟨fun fr H =>
 @aseqi (r5 s0 s1 fr H) ⟨fun fr H =>
 @aseqi (@aseqi (r6 fr H) ⟨fun fr H =>
 @acondi (fr 37)
 ⟨@aseqi (r7 fr H) ⟨fun fr H =>
 some (.ret, fr, H)⟩⟩
 ⟨some (.normal, fr, H)⟩⟩) ⟨fun fr H =>
 @aseqi (r8 fr H) ⟨fun fr H =>
 @aseqi (@aseqi (r9 fr H) ⟨fun fr H =>
  aexit 0 (aloop (l0 s0 s1 s2 s3 s4 s5 s6) fr H)⟩) ⟨fun fr H =>
 @aseqi (r19 s6 fr H) ⟨fun fr H =>
 some (.ret, fr, H)⟩⟩⟩⟩⟩⟩⟩⟩
@[simp] def res (fr : AFr) (H : AHeap) : Option (List AV) := res2 (some (fr 6)) (some [])
end law06_CoreRuns
def law06_CoreRuns (a0 a1 a2 : AV) : Option AV := closeUpR (some [[none]]) (afinR law06_CoreRuns.res (law06_CoreRuns.body mem_New.spec ref05_New.spec core_Step.spec ref06_Step.spec mem_Mem_Words.spec ref05_Same.spec law06_lives.spec (args0 [a0, a1, a2]) AHeap.empty))
def law06_CoreRuns.spec : List AV → Option AV
  | [a0, a1, a2] => law06_CoreRuns a0 a1 a2
  | _ => none
namespace mem_New_refn
def C (s0 s1 : SpecP) : Tab := ((Tab.none.add 48 (.pure true s0)).add 49 (.pure true s1))
@[simp] def r0 (fr : AFr) (H : AHeap) : ARes :=
 areg (some (AFr.al [(0, fr 0), (1, fr 1), (2, fr 2)], H))
@[simp] def r1 (s0 s1 : SpecP) (fr : AFr) (H : AHeap) : ARes :=
 areg (@opi _ (lift (some (fr 0)) H) ⟨fun v7 H1 =>
 @opi _ (lift (some (fr 0)) H1) ⟨fun v8 H2 =>
 @opi _ (lift (alenR .sl v8) H2) ⟨fun v9 H3 =>
 @opi _ (lift (amin v9 (.int .i64 60000)) H3) ⟨fun v10 H4 =>
 @opi _ (lift (asliceR (.sl 1) v7 none (some v10) none) H4) ⟨fun v11 H5 =>
 @opi _ (callP true s0 [[some 1]] [v11] H5) ⟨fun v12 H6 =>
 @opi _ (lift (some (fr 1)) H6) ⟨fun v13 H7 =>
 @opi _ (lift (amax v13 (.int .i64 0)) H7) ⟨fun v14 H8 =>
 @opi _ (lift (amin v14 (.int .i64 16000)) H8) ⟨fun v15 H9 =>
 @opi _ (amakeR (some ⟨T.ty_uint32, 1, 4, [(W32 0#32)]⟩) v15 v15 H9) ⟨fun v16 H10 =>
 @opi _ (lift (some (fr 2)) H10) ⟨fun v17 H11 =>
 @opi _ (callP true s1 [[some 1]] [v17] H11) ⟨fun v18 H12 =>
 @opi _ (lift (abuildR (.str [.nils, .nils, .nils, (.int .i64 0), (W32 0#32)] [(0, 1), (1, 1), (2, 1), (3, 1), (4, 1)]) [(0, v12), (1, v16), (2, v18)]) H12) ⟨fun v19 H13 =>
 @opi _ (abox T.ty_mem_Mem v19 H13) ⟨fun v20 H14 =>
 @opi _ (lift (some v20) H14) ⟨fun v6 H15 =>
 some (AFr.al [(6, v6)], H15)⟩⟩⟩⟩⟩⟩⟩⟩⟩⟩⟩⟩⟩⟩⟩)
@[simp] def body (s0 s1 : SpecP) (fr : AFr) (H : AHeap) : ARes :=
  @aseqi (r0 fr H) ⟨fun fr H =>
 @aseqi (r1 s0 s1 fr H) ⟨fun fr H =>
 some (.ret, fr, H)⟩⟩
@[simp] def res (fr : AFr) (H : AHeap) : Option (List AV) := res2 (some (fr 6)) (some [])
end mem_New_refn
def mem_New_refn (a0 a1 a2 : AV) (H : AHeap) : Option (AV × AHeap) := raw (afinR mem_New_refn.res (mem_New_refn.body slices_Clone_uint16.spec slices_Clone_uint32.spec (args0 [a0, a1, a2]) H))
def mem_New_refn.spec : List AV → AHeap → Option (AV × AHeap)
  | [a0, a1, a2], H => mem_New_refn a0 a1 a2 H
  | _, _ => none
namespace law06_CoreSteps
def C (s0 s1 : SpecP) (s2 s3 s4 s5 s6 s7 : SpecM) (s8 : SpecP) (s9 s10 : SpecM) : Tab := (((((((((((Tab.none.add 22 (.pure false s0)).add 21 (.pure false s1)).add 15 (.ref [false, false, false] s2)).add 16 (.ref [true, false, true] s3)).add 25 (.ref [false, false, false] s4)).add 17 (.ref [true, false] s5)).add 18 (.ref [true, false] s6)).add 20 (.ref [false] s7)).add 19 (.pure false s8)).add 26 (.ref [false] s9)).add 27 (.ref [false] s10))
@[simp] def r0 (fr : AFr) (H : AHeap) : ARes :=
 areg (@opi _ (abox T.ty_api_Ins (fr 0) H) ⟨fun v3 H =>
 @opi _ (abox T.ty_api_State (fr 1) H) ⟨fun v4 H =>
 @opi _ (abox T.ty_4_uint32 (fr 2) H) ⟨fun v5 H =>
 some (AFr.al [(3, v3), (4, v4), (5, v5)], H)⟩⟩⟩)
@[simp] def r1 (s0 : SpecP) (fr : AFr) (H : AHeap) : ARes :=
 areg (@opi _ (lift (aloadR (some (some 5)) (fr 3) H) H) ⟨fun v20 H =>
 @opi _ (callP false s0 [[none, none, none, none, none]] [v20] H) ⟨fun v21 H =>
 @opi _ (lift (aextract v21 0) H) ⟨fun v22 H =>
 @opi _ (lift (aextract v21 1) H) ⟨fun v23 H =>
 some (AFr.al [(4, fr 4), (5, fr 5), (7, v22), (8, v23)], H)⟩⟩⟩⟩)
@[simp] def r2 (fr : AFr) (H : AHeap) : ARes :=
 areg (@opi _ (lift (abinR .x .neq (fr 8) (.int .i64 0)) H) ⟨fun v25 H =>
 some (AFr.al [(4, fr 4), (5, fr 5), (7, fr 7), (25, v25)], H)⟩)
@[simp] def r3 (s1 : SpecP) (fr : AFr) (H : AHeap) : ARes :=
 areg (@opi _ (callP false s1 [] [] H) ⟨fun v26 H =>
 some (AFr.al [(6, v26)], H)⟩)
@[simp] def r4 (fr : AFr) (H : AHeap) : ARes :=
 areg (@opi _ (abuildSliceR (some ⟨T.ty_uint16, 1, 2, [(W16 0#16)]⟩) 6 [(0, (W16 48896#16)), (1, (fr 7)), (2, (W16 4660#16)), (3, (W16 22136#16)), (4, (W16 48640#16)), (5, (W16 39612#16))] H) ⟨fun v28 H =>
 some (AFr.al [(4, fr 4), (5, fr 5), (9, v28)], H)⟩)
@[simp] def r5 (fr : AFr) (H : AHeap) : ARes :=
 areg (@opi _ (lift (afieldAddrR (some 8) (fr 4)) H) ⟨fun v29 H =>
 @opi _ (liftS (astoreR (some 1) v29 (W32 2#32) H)) ⟨fun _ H =>
 some (AFr.al [(4, fr 4), (5, fr 5), (9, fr 9)], H)⟩⟩)
@[simp] def r6 (s2 s3 : SpecM) (fr : AFr) (H : AHeap) : ARes :=
 areg (@opi _ (abuildSliceR (some ⟨T.ty_uint32, 1, 4, [(W32 0#32)]⟩) 2 [(0, (W32 77#32)), (1, (W32 78#32))] H) ⟨fun v31 H =>
 @opi _ (callM [false, false, false] s2 [[some 1], [none], [some 1]] [(fr 9), (.int .i64 4), v31] H) ⟨fun v32 H =>
 @opi _ (abuildSliceR (some ⟨T.ty_uint32, 1, 4, [(W32 0#32)]⟩) 2 [(0, (W32 77#32)), (1, (W32 78#32))] H) ⟨fun v34 H =>
 @opi _ (callM [true, false, true] s3 [[some 1], [none], [some 1]] [(fr 9), (.int .i64 4), v34] H) ⟨fun v35 H =>
 some (AFr.al [(4, fr 4), (5, fr 5), (10, v32), (11, v35)], H)⟩⟩⟩⟩)
@[simp] def r7 (fr : AFr) (H : AHeap) : ARes :=
 areg (@opi _ (lift (abinR .p .eql (fr 10) .nilp) H) ⟨fun v37 H =>
 some (AFr.al [(4, fr 4), (5, fr 5), (10, fr 10), (11, fr 11), (37, v37)], H)⟩)
@[simp] def r8 (fr : AFr) (H : AHeap) : ARes :=
 areg (some (AFr.al [(6, (.bool false))], H))
@[simp] def r9 (fr : AFr) (H : AHeap) : ARes :=
 areg (some (AFr.al [(4, fr 4), (5, fr 5), (10, fr 10), (11, fr 11), (12, (.int .i64 0))], H))
@[simp] def r10 (fr : AFr) (H : AHeap) : ARes :=
 areg (@opi _ (lift (abinR .x .lss (fr 12) (.int .i64 4)) H) ⟨fun v39 H =>
 some (AFr.al [(4, fr 4), (5, fr 5), (10, fr 10), (11, fr 11), (12, fr 12), (39, v39)], H)⟩)
@[simp] def r12 (s4 : SpecM) (fr : AFr) (H : AHeap) : ARes :=
 areg (@opi _ (lift (aindexAddrR (.arr 4 1) (fr 5) (fr 12)) H) ⟨fun v45 H =>
 @opi _ (lift (aloadR (some none) v45 H) H) ⟨fun v46 H =>
 @opi _ (callM [false, false, false] s4 [[none], [none], [none]] [(fr 10), (fr 12), v46] H) ⟨fun v47 H =>
 some (AFr.al [(4, fr 4), (5, fr 5), (10, fr 10), (11, fr 11), (12, fr 12)], H)⟩⟩⟩)
@[simp] def r13 (fr : AFr) (H : AHeap) : ARes :=
 areg (@opi _ (lift (some (fr 11)) H) ⟨fun v48 H1 =>
 @opi _ (lift (anil v48) H1) ⟨fun v49 H2 =>
 @opi _ (lift (afieldAddrR (some 1) v49) H2) ⟨fun v50 H3 =>
 @opi _ (lift (aloadR (some none) v50 H3) H3) ⟨fun v51 H4 =>
 @opi _ (lift (some (fr 12)) H4) ⟨fun v52 H5 =>
 @opi _ (lift (some (fr 12)) H5) ⟨fun v53 H6 =>
 @opi _ (lift (aindexAddrR (.arr 4 1) (fr 5) v53) H6) ⟨fun v54 H7 =>
 @opi _ (lift (aloadR (some none) v54 H7) H7) ⟨fun v55 H8 =>
 @opi _ (lift (aindexAddrR (.sl 1) v51 v52) H8) ⟨fun v56 H9 =>
 @opi _ (liftS (astoreR (some 1) v56 v55 H9)) ⟨fun _ H10 =>
 some (AFr.al [(4, fr 4), (5, fr 5), (10, fr 10), (11, fr 11), (12, fr 12)], H10)⟩⟩⟩⟩⟩⟩⟩⟩⟩⟩)
@[simp] def r11 (fr : AFr) (H : AHeap) : ARes :=
 areg (@opi _ (lift (abinR .x .add (fr 12) (.int .i64 1)) H) ⟨fun v41 H =>
 some (AFr.al [(4, fr 4), (5, fr 5), (10, fr 10), (11, fr 11), (12, v41)], H)⟩)
@[simp] def r14 (s5 : SpecM) (fr : AFr) (H : AHeap) : ARes :=
 areg (@opi _ (lift (aloadR (some (some 13)) (fr 4) H) H) ⟨fun v58 H =>
 @opi _ (callM [true, false] s5 [[none, none, none, none, none, none, none, none, none, none, none, none, none], [none]] [v58, (fr 10)] H) ⟨fun v60 H =>
 @opi _ (lift (aextract v60 0) H) ⟨fun v61 H =>
 @opi _ (lift (aextract v60 1) H) ⟨fun v62 H =>
 @opi _ (lift (aextract v60 2) H) ⟨fun v63 H =>
 @opi _ (aallocR T.ty_api_State (some (.agg [(W32 0#32), (W32 0#32), (W32 0#32), (W32 0#32), (W32 0#32), (W32 0#32), (W32 0#32), (W32 0#32), (W32 0#32), (.bool false), (.bool false), (.bool false), (.bool false)])) H) ⟨fun v13 H =>
 @opi _ (liftS (astoreR (some 13) v13 v61 H)) ⟨fun _ H =>
 some (AFr.al [(4, fr 4), (10, fr 10), (11, fr 11), (13, v13), (14, v62), (15, v63)], H)⟩⟩⟩⟩⟩⟩⟩)
@[simp] def r15 (s6 : SpecM) (fr : AFr) (H : AHeap) : ARes :=
 areg (@opi _ (lift (aloadR (some (some 13)) (fr 4) H) H) ⟨fun v65 H =>
 @opi _ (callM [true, false] s6 [[none, none, none, none, none, none, none, none, none, none, none, none, none], [none]] [v65, (fr 11)] H) ⟨fun v67 H =>
 @opi _ (lift (aextract v67 0) H) ⟨fun v68 H =>
 @opi _ (lift (aextract v67 1) H) ⟨fun v69 H =>
 @opi _ (lift (aextract v67 2) H) ⟨fun v70 H =>
 @opi _ (aallocR T.ty_api_State (some (.agg [(W32 0#32), (W32 0#32), (W32 0#32), (W32 0#32), (W32 0#32), (W32 0#32), (W32 0#32), (W32 0#32), (W32 0#32), (.bool false), (.bool false), (.bool false), (.bool false)])) H) ⟨fun v16 H =>
 @opi _ (liftS (astoreR (some 13) v16 v68 H)) ⟨fun _ H =>
 some (AFr.al [(10, fr 10), (11, fr 11), (13, fr 13), (14, fr 14), (15, fr 15), (16, v16), (17, v69), (18, v70)], H)⟩⟩⟩⟩⟩⟩⟩)
@[simp] def r16 (s1 : SpecP) (s7 : SpecM) (s8 : SpecP) (s9 s10 : SpecM) (fr : AFr) (H : AHeap) : ARes :=
 areg (@opi _ (lift (aloadR (some (some 13)) (fr 13) H) H) ⟨fun v71 H1 =>
 @opi _ (lift (aloadR (some (some 13)) (fr 16) H1) H1) ⟨fun v72 H2 =>
 @opi _ (lift (abinR (.c [.i, .i, .i, .i, .i, .i, .i, .i, .i, .b, .b, .b, .b]) .eql v71 v72) H2) ⟨fun v73 H3 =>
 @opi _ (lift (some v73) H3) ⟨fun v74 H4 =>
 @opi _ (@gdi (gw v74 true) ⟨lift (some (fr 14)) H4⟩ H4) ⟨fun v75 H5 =>
 @opi _ (@gdi (gw v74 true) ⟨lift (some (fr 17)) H5⟩ H5) ⟨fun v76 H6 =>
 @opi _ (@gdi (gw v74 true) ⟨lift (abinR .b .eql v75 v76) H6⟩ H6) ⟨fun v77 H7 =>
 @opi _ (lift (apick v74 v77 (.bool false)) H7) ⟨fun v78 H8 =>
 @opi _ (lift (some v78) H8) ⟨fun v79 H9 =>
 @opi _ (@gdi (gw v79 true) ⟨lift (some (fr 15)) H9⟩ H9) ⟨fun v80 H10 =>
 @opi _ (@gdi (gw v79 true) ⟨lift (some (fr 18)) H10⟩ H10) ⟨fun v81 H11 =>
 @opi _ (@gdi (gw v79 true) ⟨lift (abinR .x .eql v80 v81) H11⟩ H11) ⟨fun v82 H12 =>
 @opi _ (lift (apick v79 v82 (.bool false)) H12) ⟨fun v83 H13 =>
 @opi _ (lift (some v83) H13) ⟨fun v84 H14 =>
 @opi _ (@gdi (gw v84 true) ⟨lift (some (fr 10)) H14⟩ H14) ⟨fun v85 H15 =>
 @opi _ (san H15 (@gdi (gw v84 true) ⟨callM [false] s7 [[none]] [v85] H15⟩ H15)) ⟨fun v86 H16 =>
 @opi _ (@gdi (gw v84 true) ⟨lift (some (fr 11)) H16⟩ H16) ⟨fun v87 H17 =>
 @opi _ (@gdi (gw v84 true) ⟨lift (anil v87) H17⟩ H17) ⟨fun v88 H18 =>
 @opi _ (@gdi (gw v84 true) ⟨lift (afieldAddrR (some 1) v88) H18⟩ H18) ⟨fun v89 H19 =>
 @opi _ (@gdi (gw v84 true) ⟨lift (aloadR (some none) v89 H19) H19⟩ H19) ⟨fun v90 H20 =>
 @opi _ (@gdi (gw v84 true) ⟨callP false s8 [[some 1], [some 1]] [v86, v90] H20⟩ H20) ⟨fun v91 H21 =>
 @opi _ (lift (apick v84 v91 (.bool false)) H21) ⟨fun v92 H22 =>
 @opi _ (lift (some v92) H22) ⟨fun v93 H23 =>
 @opi _ (@gdi (gw v93 true) ⟨lift (some (fr 10)) H23⟩ H23) ⟨fun v94 H24 =>
 @opi _ (san H24 (@gdi (gw v93 true) ⟨callM [false] s9 [[none]] [v94] H24⟩ H24)) ⟨fun v95 H25 =>
 @opi _ (@gdi (gw v93 true) ⟨lift (some (fr 11)) H25⟩ H25) ⟨fun v96 H26 =>
 @opi _ (@gdi (gw v93 true) ⟨lift (anil v96) H26⟩ H26) ⟨fun v97 H27 =>
 @opi _ (@gdi (gw v93 true) ⟨lift (afieldAddrR (some 4) v97) H27⟩ H27) ⟨fun v98 H28 =>
 @opi _ (@gdi (gw v93 true) ⟨lift (aloadR (some none) v98 H28) H28⟩ H28) ⟨fun v99 H29 =>
 @opi _ (@gdi (gw v93 true) ⟨lift (abinR .x .eql v95 v99) H29⟩ H29) ⟨fun v100 H30 =>
 @opi _ (lift (apick v93 v100 (.bool false)) H30) ⟨fun v101 H31 =>
 @opi _ (lift (some v101) H31) ⟨fun v102 H32 =>
 @opi _ (@gdi (gw v102 true) ⟨lift (some (fr 10)) H32⟩ H32) ⟨fun v103 H33 =>
 @opi _ (san H33 (@gdi (gw v102 true) ⟨callM [false] s10 [[none]] [v103] H33⟩ H33)) ⟨fun v104 H34 =>
 @opi _ (@gdi (gw v102 true) ⟨lift (some (fr 11)) H34⟩ H34) ⟨fun v105 H35 =>
 @opi _ (@gdi (gw v102 true) ⟨lift (anil v105) H35⟩ H35) ⟨fun v106 H36 =>
 @opi _ (@gdi (gw v102 true) ⟨lift (afieldAddrR (some 3) v106) H36⟩ H36) ⟨fun v107 H37 =>
 @opi _ (@gdi (gw v102 true) ⟨lift (aloadR (some none) v107 H37) H37⟩ H37) ⟨fun v108 H38 =>
 @opi _ (@gdi (gw v102 true) ⟨lift (abinR .x .eql v104 v108) H38⟩ H38) ⟨fun v109 H39 =>
 @opi _ (lift (apick v102 v109 (.bool false)) H39) ⟨fun v110 H40 =>
 @opi _ (lift (some v110) H40) ⟨fun v111 H41 =>
 @opi _ (@gdi (gw v111 true) ⟨callP false s1 [] [] H41⟩ H41) ⟨fun v112 H42 =>
 @opi _ (lift (apick v111 v112 (.bool false)) H42) ⟨fun v113 H43 =>
 @opi _ (lift (some v113) H43) ⟨fun v6 H44 =>
 withChk [aloadR (some none) v89 H15 = aloadR (some none) v89 H16, aloadR (some none) v98 H24 = aloadR (some none) v98 H25, aloadR (some none) v107 H33 = aloadR (some none) v107 H34] (some (AFr.al [(6, v6)], H44))⟩⟩⟩⟩⟩⟩⟩⟩⟩⟩⟩⟩⟩⟩⟩⟩⟩⟩⟩⟩⟩⟩⟩⟩⟩⟩⟩⟩⟩⟩⟩⟩⟩⟩⟩⟩⟩⟩⟩⟩⟩⟩⟩⟩)
def l0 (s0 s1 : SpecP) (s2 s3 s4 s5 s6 s7 : SpecM) (s8 : SpecP) (s9 s10 : SpecM) (fr : AFr) (H : AHeap) : ARes :=
  @aseqi (@aseqi (r10 fr H) ⟨fun fr H =>
 @acondi (fr 39)
 ⟨some (.normal, fr, H)⟩
 ⟨some (.exit 0, fr, H)⟩⟩) ⟨fun fr H =>
 @aseqi (aexit 1 (@aseqi (r12 s4 fr H) ⟨fun fr H =>
 r13 fr H⟩)) ⟨fun fr H =>
 r11 fr H⟩⟩
@[simp] def body (s0 s1 : SpecP) (s2 s3 s4 s5 s6 s7 : SpecM) (s8 : SpecP) (s9 s10 : SpecM) (fr : AFr) (H : AHeap) : ARes :=
  @aseqi (r0 fr H) ⟨fun fr H =>
 @aseqi (r1 s0 fr H) ⟨fun fr H =>
 @aseqi (@aseqi (r2 fr H) ⟨fun fr H =>
 @acondi (fr 25)
 ⟨@aseqi (r3 s1 fr H) ⟨fun fr H =>
 some (.ret, fr, H)⟩⟩
 ⟨some (.normal, fr, H)⟩⟩) ⟨fun fr H =>
 @aseqi (r4 fr H) ⟨fun fr H =>
 @aseqi (r5 fr H) ⟨fun fr H =>
 @aseqi (r6 s2 s3 fr H) ⟨fun fr H =>
 @aseqi (@aseqi (r7 fr H) ⟨fun fr H =>
 @acondi (fr 37)
 ⟨@aseqi (r8 fr H) ⟨fun fr H =>
 some (.ret, fr, H)⟩⟩
 ⟨some (.normal, fr, H)⟩⟩) ⟨fun fr H =>
 @aseqi (@aseqi (r9 fr H) ⟨fun fr H =>
  aexit 0 (aloop (l0 s0 s1 s2 s3 s4 s5 s6 s7 s8 s9 s10) fr H)⟩) ⟨fun fr H =>
 @aseqi (r14 s5 fr H) ⟨fun fr H =>
 @aseqi (r15 s6 fr H) ⟨fun fr H =>
 @aseqi (r16 s1 s7 s8 s9 s10 fr H) ⟨fun fr H =>
 some (.ret, fr, H)⟩⟩⟩⟩⟩⟩⟩⟩⟩⟩⟩
@[simp] def res (fr : AFr) (H : AHeap) : Option (List AV) := res2 (some (fr 6)) (some [])
end law06_CoreSteps
def law06_CoreSteps (a0 a1 a2 : AV) : Option AV := closeUpR (some [[none]]) (afinR law06_CoreSteps.res (law06_CoreSteps.body ref02_Put.spec law06_lives.spec mem_New_refn.spec ref05_New.spec mem_Mem_Set.spec core_Step.spec ref06_Step.spec mem_Mem_Words.spec ref05_Same.spec mem_Mem_Bus.spec mem_Mem_Drawn.spec (args0 [a0, a1, a2]) AHeap.empty))
def law06_CoreSteps.spec : List AV → Option AV
  | [a0, a1, a2] => law06_CoreSteps a0 a1 a2
  | _ => none
end
end Go.Abs
