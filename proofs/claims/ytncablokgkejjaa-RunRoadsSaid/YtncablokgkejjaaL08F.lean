/-
  The functions, as they are over abstract values. Printed by gen.py.
-/
import Derived.Test.YtncablokgkejjaaRuF
import Derived.Test.YtncablokgkejjaaRrF
import Derived.Test.YtncablokgkejjaaLoF
set_option linter.unusedVariables false
namespace Go.Abs
noncomputable section
namespace law08_small
def C : Tab := Tab.none
@[simp] def r0 (fr : AFr) (H : AHeap) : ARes :=
 areg (@opi _ (abox T.ty_bautalaw08_Case (fr 0) H) ⟨fun v1 H =>
 @opi _ (aallocR T.ty_bautalaw08_Case (some (.agg [.nils, .nils, .nils])) H) ⟨fun v2 H =>
 some (AFr.al [(1, v1), (2, v2)], H)⟩⟩)
@[simp] def r1 (fr : AFr) (H : AHeap) : ARes :=
 areg (@opi _ (lift (afieldAddrR (some 0) (fr 1)) H) ⟨fun v3 H =>
 @opi _ (lift (aloadR (some none) v3 H) H) ⟨fun v4 H =>
 @opi _ (lift (alenR .sl v4) H) ⟨fun v5 H =>
 @opi _ (lift (abinR .x .gtr v5 (.int .i64 100)) H) ⟨fun v6 H =>
 some (AFr.al [(1, fr 1), (2, fr 2), (6, v6)], H)⟩⟩⟩⟩)
@[simp] def r2 (fr : AFr) (H : AHeap) : ARes :=
 areg (@opi _ (lift (afieldAddrR (some 0) (fr 1)) H) ⟨fun v7 H =>
 @opi _ (lift (aloadR (some none) v7 H) H) ⟨fun v8 H =>
 @opi _ (lift (asliceR (.sl 1) v8 none (some (.int .i64 100)) none) H) ⟨fun v9 H =>
 @opi _ (lift (afieldAddrR (some 0) (fr 1)) H) ⟨fun v10 H =>
 @opi _ (liftS (astoreR (some 1) v10 v9 H)) ⟨fun _ H =>
 some (AFr.al [(1, fr 1), (2, fr 2)], H)⟩⟩⟩⟩⟩)
@[simp] def r3 (fr : AFr) (H : AHeap) : ARes :=
 areg (@opi _ (lift (afieldAddrR (some 1) (fr 1)) H) ⟨fun v11 H =>
 @opi _ (lift (aloadR (some none) v11 H) H) ⟨fun v12 H =>
 @opi _ (lift (alenR .sl v12) H) ⟨fun v13 H =>
 @opi _ (lift (abinR .x .gtr v13 (.int .i64 30)) H) ⟨fun v14 H =>
 some (AFr.al [(1, fr 1), (2, fr 2), (14, v14)], H)⟩⟩⟩⟩)
@[simp] def r4 (fr : AFr) (H : AHeap) : ARes :=
 areg (@opi _ (lift (afieldAddrR (some 1) (fr 1)) H) ⟨fun v15 H =>
 @opi _ (lift (aloadR (some none) v15 H) H) ⟨fun v16 H =>
 @opi _ (lift (asliceR (.sl 1) v16 none (some (.int .i64 30)) none) H) ⟨fun v17 H =>
 @opi _ (lift (afieldAddrR (some 1) (fr 1)) H) ⟨fun v18 H =>
 @opi _ (liftS (astoreR (some 1) v18 v17 H)) ⟨fun _ H =>
 some (AFr.al [(1, fr 1), (2, fr 2)], H)⟩⟩⟩⟩⟩)
@[simp] def r5 (fr : AFr) (H : AHeap) : ARes :=
 areg (@opi _ (lift (afieldAddrR (some 2) (fr 1)) H) ⟨fun v19 H =>
 @opi _ (lift (aloadR (some none) v19 H) H) ⟨fun v20 H =>
 @opi _ (lift (alenR .sl v20) H) ⟨fun v21 H =>
 @opi _ (lift (abinR .x .gtr v21 (.int .i64 50)) H) ⟨fun v22 H =>
 some (AFr.al [(1, fr 1), (2, fr 2), (22, v22)], H)⟩⟩⟩⟩)
@[simp] def r6 (fr : AFr) (H : AHeap) : ARes :=
 areg (@opi _ (lift (afieldAddrR (some 2) (fr 1)) H) ⟨fun v23 H =>
 @opi _ (lift (aloadR (some none) v23 H) H) ⟨fun v24 H =>
 @opi _ (lift (asliceR (.sl 1) v24 none (some (.int .i64 50)) none) H) ⟨fun v25 H =>
 @opi _ (lift (afieldAddrR (some 2) (fr 1)) H) ⟨fun v26 H =>
 @opi _ (liftS (astoreR (some 1) v26 v25 H)) ⟨fun _ H =>
 some (AFr.al [(1, fr 1), (2, fr 2)], H)⟩⟩⟩⟩⟩)
@[simp] def r7 (fr : AFr) (H : AHeap) : ARes :=
 areg (@opi _ (abuildSliceR (some ⟨T.ty_uint16, 1, 2, [(W16 0#16)]⟩) 0 [] H) ⟨fun v27 H1 =>
 @opi _ (lift (afieldAddrR (some 0) (fr 1)) H1) ⟨fun v28 H2 =>
 @opi _ (lift (aloadR (some none) v28 H2) H2) ⟨fun v29 H3 =>
 @opi _ (aappendR (some ⟨T.ty_uint16, 1, 2, [(W16 0#16)]⟩) v27 v29 H3) ⟨fun v30 H4 =>
 @opi _ (abuildSliceR (some ⟨T.ty_uint32, 1, 4, [(W32 0#32)]⟩) 0 [] H4) ⟨fun v31 H5 =>
 @opi _ (lift (afieldAddrR (some 1) (fr 1)) H5) ⟨fun v32 H6 =>
 @opi _ (lift (aloadR (some none) v32 H6) H6) ⟨fun v33 H7 =>
 @opi _ (aappendR (some ⟨T.ty_uint32, 1, 4, [(W32 0#32)]⟩) v31 v33 H7) ⟨fun v34 H8 =>
 @opi _ (abuildSliceR (some ⟨T.ty_uint32, 1, 4, [(W32 0#32)]⟩) 0 [] H8) ⟨fun v35 H9 =>
 @opi _ (lift (afieldAddrR (some 2) (fr 1)) H9) ⟨fun v36 H10 =>
 @opi _ (lift (aloadR (some none) v36 H10) H10) ⟨fun v37 H11 =>
 @opi _ (aappendR (some ⟨T.ty_uint32, 1, 4, [(W32 0#32)]⟩) v35 v37 H11) ⟨fun v38 H12 =>
 @opi _ (lift (abuildR (.str [.nils, .nils, .nils] [(0, 1), (1, 1), (2, 1)]) [(0, v30), (1, v34), (2, v38)]) H12) ⟨fun v39 H13 =>
 @opi _ (liftS (astoreR (some 3) (fr 2) v39 H13)) ⟨fun _ H14 =>
 withChk [aloadR (some none) v32 H3 = aloadR (some none) v32 H4, aloadR (some none) v36 H3 = aloadR (some none) v36 H4, aloadR (some none) v36 H7 = aloadR (some none) v36 H8] (some (AFr.al [(2, fr 2)], H14))⟩⟩⟩⟩⟩⟩⟩⟩⟩⟩⟩⟩⟩⟩)
@[simp] def body (fr : AFr) (H : AHeap) : ARes :=
  @aseqi (r0 fr H) ⟨fun fr H =>
 @aseqi (@aseqi (r1 fr H) ⟨fun fr H =>
 @acondi (fr 6)
 ⟨r2 fr H⟩
 ⟨some (.normal, fr, H)⟩⟩) ⟨fun fr H =>
 @aseqi (@aseqi (r3 fr H) ⟨fun fr H =>
 @acondi (fr 14)
 ⟨r4 fr H⟩
 ⟨some (.normal, fr, H)⟩⟩) ⟨fun fr H =>
 @aseqi (@aseqi (r5 fr H) ⟨fun fr H =>
 @acondi (fr 22)
 ⟨r6 fr H⟩
 ⟨some (.normal, fr, H)⟩⟩) ⟨fun fr H =>
 @aseqi (r7 fr H) ⟨fun fr H =>
 some (.ret, fr, H)⟩⟩⟩⟩⟩
@[simp] def res (fr : AFr) (H : AHeap) : Option (List AV) := res2 (aloadR (some (some 3)) (fr 2) H) (some [])
end law08_small
def law08_small (a0 : AV) : Option AV := closeUpR (some [[some 1, some 1, some 1]]) (afinR law08_small.res (law08_small.body (args0 [a0]) AHeap.empty))
def law08_small.spec : List AV → Option AV
  | [a0] => law08_small a0
  | _ => none
namespace law08_few
@[simp] def r0 (fr : AFr) (H : AHeap) : ARes :=
 areg (some (AFr.al [(0, fr 0)], H))
@[simp] def r1 (fr : AFr) (H : AHeap) : ARes :=
 areg (@opi _ (lift (abinR .x .gtr (fr 0) (.int .i64 300)) H) ⟨fun v4 H =>
 some (AFr.al [(0, fr 0), (4, v4)], H)⟩)
@[simp] def r2 (fr : AFr) (H : AHeap) : ARes :=
 areg (some (AFr.al [(2, (.int .i64 300))], H))
@[simp] def r3 (fr : AFr) (H : AHeap) : ARes :=
 areg (some (AFr.al [(2, (fr 0))], H))
@[simp] def body (fr : AFr) (H : AHeap) : ARes :=
  @aseqi (r0 fr H) ⟨fun fr H =>
 @aseqi (@aseqi (r1 fr H) ⟨fun fr H =>
 @acondi (fr 4)
 ⟨@aseqi (r2 fr H) ⟨fun fr H =>
 some (.ret, fr, H)⟩⟩
 ⟨some (.normal, fr, H)⟩⟩) ⟨fun fr H =>
 @aseqi (r3 fr H) ⟨fun fr H =>
 some (.ret, fr, H)⟩⟩⟩
@[simp] def res (fr : AFr) (H : AHeap) : Option (List AV) := res2 (some (fr 2)) (some [])
end law08_few
def law08_few (a0 : AV) : Option AV := closeUpR (some [[none]]) (afinR law08_few.res (law08_few.body (args0 [a0]) AHeap.empty))
def law08_few.spec : List AV → Option AV
  | [a0] => law08_few a0
  | _ => none
namespace law08_lives
def C (s0 : SpecP) : Tab := (Tab.none.add 39 (.pure false s0))
@[simp] def r0 (fr : AFr) (H : AHeap) : ARes :=
 areg (some (AFr.al [], H))
@[simp] def r1 (s0 : SpecP) (fr : AFr) (H : AHeap) : ARes :=
 areg (@opi _ (abuildSliceR (some ⟨T.ty_uint16, 1, 2, [(W16 0#16)]⟩) 2 [(0, (W16 8193#16)), (1, (W16 48640#16))] H) ⟨fun v2 H =>
 @opi _ (abuildSliceR (some ⟨T.ty_uint32, 1, 4, [(W32 0#32)]⟩) 1 [(0, (W32 9#32))] H) ⟨fun v3 H =>
 @opi _ (callP false s0 [[some 1], [some 1], [some 1], [none]] [v2, v3, .nils, (.int .i64 10)] H) ⟨fun v4 H =>
 @opi _ (aallocR T.ty_api_Outcome (some (.agg [(.int .i64 0), (.int .i64 0), (.int .i64 0), .nils, .nils])) H) ⟨fun v1 H =>
 @opi _ (liftS (astoreR (some 5) v1 v4 H)) ⟨fun _ H =>
 some (AFr.al [(1, v1)], H)⟩⟩⟩⟩⟩)
@[simp] def r2 (fr : AFr) (H : AHeap) : ARes :=
 areg (@opi _ (lift (afieldAddrR (some 0) (fr 1)) H) ⟨fun v5 H =>
 @opi _ (lift (aloadR (some none) v5 H) H) ⟨fun v6 H =>
 @opi _ (lift (abinR .x .eql v6 (.int .i64 2)) H) ⟨fun v7 H =>
 @opi _ (@gdi (gw v7 true) ⟨lift (afieldAddrR (some 2) (fr 1)) H⟩ H) ⟨fun v9 H =>
 @opi _ (@gdi (gw v7 true) ⟨lift (aloadR (some none) v9 H) H⟩ H) ⟨fun v10 H =>
 @opi _ (@gdi (gw v7 true) ⟨lift (abinR .x .eql v10 (.int .i64 0)) H⟩ H) ⟨fun v11 H =>
 @opi _ (lift (apick v7 v11 (.bool false)) H) ⟨fun v12 H =>
 @opi _ (@gdi (gw v12 true) ⟨lift (afieldAddrR (some 4) (fr 1)) H⟩ H) ⟨fun v14 H =>
 @opi _ (@gdi (gw v12 true) ⟨lift (aloadR (some none) v14 H) H⟩ H) ⟨fun v15 H =>
 @opi _ (@gdi (gw v12 true) ⟨lift (alenR .sl v15) H⟩ H) ⟨fun v16 H =>
 @opi _ (@gdi (gw v12 true) ⟨lift (abinR .x .eql v16 (.int .i64 2)) H⟩ H) ⟨fun v17 H =>
 @opi _ (lift (apick v12 v17 (.bool false)) H) ⟨fun v18 H =>
 @opi _ (@gdi (gw v18 true) ⟨lift (afieldAddrR (some 3) (fr 1)) H⟩ H) ⟨fun v20 H =>
 @opi _ (@gdi (gw v18 true) ⟨lift (aloadR (some none) v20 H) H⟩ H) ⟨fun v21 H =>
 @opi _ (@gdi (gw v18 true) ⟨lift (alenR .sl v21) H⟩ H) ⟨fun v22 H =>
 @opi _ (@gdi (gw v18 true) ⟨lift (abinR .x .eql v22 (.int .i64 1)) H⟩ H) ⟨fun v23 H =>
 @opi _ (lift (apick v18 v23 (.bool false)) H) ⟨fun v24 H =>
 @opi _ (@gdi (gw v24 true) ⟨lift (afieldAddrR (some 3) (fr 1)) H⟩ H) ⟨fun v26 H =>
 @opi _ (@gdi (gw v24 true) ⟨lift (aloadR (some none) v26 H) H⟩ H) ⟨fun v27 H =>
 @opi _ (@gdi (gw v24 true) ⟨lift (aindexAddrR (.sl 1) v27 (.int .i64 0)) H⟩ H) ⟨fun v28 H =>
 @opi _ (@gdi (gw v24 true) ⟨lift (aloadR (some none) v28 H) H⟩ H) ⟨fun v29 H =>
 @opi _ (@gdi (gw v24 true) ⟨lift (abinR .x .eql v29 (W32 9#32)) H⟩ H) ⟨fun v30 H =>
 @opi _ (lift (apick v24 v30 (.bool false)) H) ⟨fun v31 H =>
 some (AFr.al [(0, v31)], H)⟩⟩⟩⟩⟩⟩⟩⟩⟩⟩⟩⟩⟩⟩⟩⟩⟩⟩⟩⟩⟩⟩⟩)
@[simp] def body (s0 : SpecP) (fr : AFr) (H : AHeap) : ARes :=
  @aseqi (r0 fr H) ⟨fun fr H =>
 @aseqi (r1 s0 fr H) ⟨fun fr H =>
 @aseqi (r2 fr H) ⟨fun fr H =>
 some (.ret, fr, H)⟩⟩⟩
@[simp] def res (fr : AFr) (H : AHeap) : Option (List AV) := res2 (some (fr 0)) (some [])
end law08_lives
def law08_lives : Option AV := closeUpR (some [[none]]) (afinR law08_lives.res (law08_lives.body run_Exec.spec (args0 []) AHeap.empty))
def law08_lives.spec : List AV → Option AV
  | [] => law08_lives
  | _ => none
namespace law08_RunLonger
@[simp] def r0 (fr : AFr) (H : AHeap) : ARes :=
 areg (@opi _ (abox T.ty_bautalaw08_Case (fr 0) H) ⟨fun v3 H =>
 some (AFr.al [(1, fr 1), (2, fr 2), (3, v3)], H)⟩)
@[simp] def r1 (s0 s1 : SpecP) (fr : AFr) (H : AHeap) : ARes :=
 areg (@opi _ (lift (aloadR (some (some 3)) (fr 3) H) H) ⟨fun v10 H =>
 @opi _ (callP false s0 [[some 1, some 1, some 1]] [v10] H) ⟨fun v11 H =>
 @opi _ (callP false s1 [[none]] [(fr 1)] H) ⟨fun v13 H =>
 @opi _ (liftS (astoreR (some 3) (fr 3) v11 H)) ⟨fun _ H =>
 some (AFr.al [(1, v13), (2, fr 2), (3, fr 3)], H)⟩⟩⟩⟩)
@[simp] def r2 (fr : AFr) (H : AHeap) : ARes :=
 areg (@opi _ (lift (abinR .x .lss (fr 1) (.int .i64 0)) H) ⟨fun v15 H =>
 some (AFr.al [(1, fr 1), (2, fr 2), (3, fr 3), (15, v15)], H)⟩)
@[simp] def r3 (fr : AFr) (H : AHeap) : ARes :=
 areg (some (AFr.al [(1, (.int .i64 0)), (2, fr 2), (3, fr 3)], H))
@[simp] def r4 (s2 : SpecP) (fr : AFr) (H : AHeap) : ARes :=
 areg (@opi _ (lift (afieldAddrR (some 0) (fr 3)) H) ⟨fun v16 H1 =>
 @opi _ (lift (aloadR (some none) v16 H1) H1) ⟨fun v17 H2 =>
 @opi _ (lift (afieldAddrR (some 1) (fr 3)) H2) ⟨fun v18 H3 =>
 @opi _ (lift (aloadR (some none) v18 H3) H3) ⟨fun v19 H4 =>
 @opi _ (lift (afieldAddrR (some 2) (fr 3)) H4) ⟨fun v20 H5 =>
 @opi _ (lift (aloadR (some none) v20 H5) H5) ⟨fun v21 H6 =>
 @opi _ (lift (some (fr 1)) H6) ⟨fun v22 H7 =>
 @opi _ (callP false s2 [[some 1], [some 1], [some 1], [none]] [v17, v19, v21, v22] H7) ⟨fun v23 H8 =>
 @opi _ (lift (afieldAddrR (some 0) (fr 3)) H8) ⟨fun v24 H9 =>
 @opi _ (lift (aloadR (some none) v24 H9) H9) ⟨fun v25 H10 =>
 @opi _ (lift (afieldAddrR (some 1) (fr 3)) H10) ⟨fun v26 H11 =>
 @opi _ (lift (aloadR (some none) v26 H11) H11) ⟨fun v27 H12 =>
 @opi _ (lift (afieldAddrR (some 2) (fr 3)) H12) ⟨fun v28 H13 =>
 @opi _ (lift (aloadR (some none) v28 H13) H13) ⟨fun v29 H14 =>
 @opi _ (lift (some (fr 1)) H14) ⟨fun v30 H15 =>
 @opi _ (lift (some (fr 2)) H15) ⟨fun v31 H16 =>
 @opi _ (lift (aconvR (some .i64) v31) H16) ⟨fun v32 H17 =>
 @opi _ (lift (abinR .x .add v30 v32) H17) ⟨fun v33 H18 =>
 @opi _ (callP false s2 [[some 1], [some 1], [some 1], [none]] [v25, v27, v29, v33] H18) ⟨fun v34 H19 =>
 @opi _ (aallocR T.ty_api_Outcome (some (.agg [(.int .i64 0), (.int .i64 0), (.int .i64 0), .nils, .nils])) H19) ⟨fun v7 H20 =>
 @opi _ (aallocR T.ty_api_Outcome (some (.agg [(.int .i64 0), (.int .i64 0), (.int .i64 0), .nils, .nils])) H20) ⟨fun v8 H21 =>
 @opi _ (liftS (astoreR (some 5) v7 v23 H21)) ⟨fun _ H22 =>
 @opi _ (liftS (astoreR (some 5) v8 v34 H22)) ⟨fun _ H23 =>
 withChk [aloadR (some none) v24 H7 = aloadR (some none) v24 H8, aloadR (some none) v26 H7 = aloadR (some none) v26 H8, aloadR (some none) v28 H7 = aloadR (some none) v28 H8] (some (AFr.al [(1, fr 1), (7, v7), (8, v8)], H23))⟩⟩⟩⟩⟩⟩⟩⟩⟩⟩⟩⟩⟩⟩⟩⟩⟩⟩⟩⟩⟩⟩⟩)
@[simp] def r5 (fr : AFr) (H : AHeap) : ARes :=
 areg (@opi _ (lift (afieldAddrR (some 2) (fr 7)) H) ⟨fun v35 H =>
 @opi _ (lift (aloadR (some none) v35 H) H) ⟨fun v36 H =>
 @opi _ (lift (abinR .x .neq v36 (.int .i64 80)) H) ⟨fun v37 H =>
 some (AFr.al [(1, fr 1), (7, fr 7), (8, fr 8), (37, v37)], H)⟩⟩⟩)
@[simp] def r6 (s3 s4 : SpecP) (fr : AFr) (H : AHeap) : ARes :=
 areg (@opi _ (lift (aloadR (some (some 5)) (fr 7) H) H) ⟨fun v38 H =>
 @opi _ (lift (aloadR (some (some 5)) (fr 8) H) H) ⟨fun v39 H =>
 @opi _ (callP false s3 [[none, none, none, some 1, some 10], [none, none, none, some 1, some 10]] [v38, v39] H) ⟨fun v40 H =>
 @opi _ (@gdi (gw v40 true) ⟨callP false s4 [] [] H⟩ H) ⟨fun v42 H =>
 @opi _ (lift (apick v40 v42 (.bool false)) H) ⟨fun v43 H =>
 some (AFr.al [(6, v43)], H)⟩⟩⟩⟩⟩)
@[simp] def r7 (fr : AFr) (H : AHeap) : ARes :=
 areg (@opi _ (lift (afieldAddrR (some 0) (fr 8)) H) ⟨fun v44 H =>
 @opi _ (lift (aloadR (some none) v44 H) H) ⟨fun v45 H =>
 @opi _ (lift (afieldAddrR (some 0) (fr 7)) H) ⟨fun v46 H =>
 @opi _ (lift (aloadR (some none) v46 H) H) ⟨fun v47 H =>
 @opi _ (lift (abinR .x .lss v45 v47) H) ⟨fun v48 H =>
 @opi _ (@gdi (gw v48 false) ⟨lift (afieldAddrR (some 4) (fr 8)) H⟩ H) ⟨fun v50 H =>
 @opi _ (@gdi (gw v48 false) ⟨lift (aloadR (some none) v50 H) H⟩ H) ⟨fun v51 H =>
 @opi _ (@gdi (gw v48 false) ⟨lift (alenR .sl v51) H⟩ H) ⟨fun v52 H =>
 @opi _ (@gdi (gw v48 false) ⟨lift (afieldAddrR (some 0) (fr 8)) H⟩ H) ⟨fun v53 H =>
 @opi _ (@gdi (gw v48 false) ⟨lift (aloadR (some none) v53 H) H⟩ H) ⟨fun v54 H =>
 @opi _ (@gdi (gw v48 false) ⟨lift (abinR .x .neq v52 v54) H⟩ H) ⟨fun v55 H =>
 @opi _ (lift (apick v48 (.bool true) v55) H) ⟨fun v56 H =>
 @opi _ (@gdi (gw v56 false) ⟨lift (afieldAddrR (some 4) (fr 7)) H⟩ H) ⟨fun v58 H =>
 @opi _ (@gdi (gw v56 false) ⟨lift (aloadR (some none) v58 H) H⟩ H) ⟨fun v59 H =>
 @opi _ (@gdi (gw v56 false) ⟨lift (alenR .sl v59) H⟩ H) ⟨fun v60 H =>
 @opi _ (@gdi (gw v56 false) ⟨lift (afieldAddrR (some 0) (fr 7)) H⟩ H) ⟨fun v61 H =>
 @opi _ (@gdi (gw v56 false) ⟨lift (aloadR (some none) v61 H) H⟩ H) ⟨fun v62 H =>
 @opi _ (@gdi (gw v56 false) ⟨lift (abinR .x .neq v60 v62) H⟩ H) ⟨fun v63 H =>
 @opi _ (lift (apick v56 (.bool true) v63) H) ⟨fun v64 H =>
 @opi _ (@gdi (gw v64 false) ⟨lift (afieldAddrR (some 0) (fr 7)) H⟩ H) ⟨fun v66 H =>
 @opi _ (@gdi (gw v64 false) ⟨lift (aloadR (some none) v66 H) H⟩ H) ⟨fun v67 H =>
 @opi _ (@gdi (gw v64 false) ⟨lift (some (fr 1)) H⟩ H) ⟨fun v68 H =>
 @opi _ (@gdi (gw v64 false) ⟨lift (abinR .x .neq v67 v68) H⟩ H) ⟨fun v69 H =>
 @opi _ (lift (apick v64 (.bool true) v69) H) ⟨fun v70 H =>
 some (AFr.al [(7, fr 7), (8, fr 8), (70, v70)], H)⟩⟩⟩⟩⟩⟩⟩⟩⟩⟩⟩⟩⟩⟩⟩⟩⟩⟩⟩⟩⟩⟩⟩⟩)
@[simp] def r8 (fr : AFr) (H : AHeap) : ARes :=
 areg (some (AFr.al [(6, (.bool false))], H))
@[simp] def r9 (fr : AFr) (H : AHeap) : ARes :=
 areg (some (AFr.al [(7, fr 7), (8, fr 8), (9, (.int .i64 0))], H))
@[simp] def r10 (fr : AFr) (H : AHeap) : ARes :=
 areg (@opi _ (lift (afieldAddrR (some 4) (fr 7)) H) ⟨fun v72 H =>
 @opi _ (lift (aloadR (some none) v72 H) H) ⟨fun v73 H =>
 @opi _ (lift (alenR .sl v73) H) ⟨fun v74 H =>
 @opi _ (lift (abinR .x .lss (fr 9) v74) H) ⟨fun v75 H =>
 some (AFr.al [(7, fr 7), (8, fr 8), (9, fr 9), (75, v75)], H)⟩⟩⟩⟩)
@[simp] def r12 (fr : AFr) (H : AHeap) : ARes :=
 areg (@opi _ (lift (afieldAddrR (some 4) (fr 7)) H) ⟨fun v78 H1 =>
 @opi _ (lift (aloadR (some none) v78 H1) H1) ⟨fun v79 H2 =>
 @opi _ (lift (some (fr 9)) H2) ⟨fun v80 H3 =>
 @opi _ (lift (aindexAddrR (.sl 10) v79 v80) H3) ⟨fun v81 H4 =>
 @opi _ (lift (aloadR (some (some 10)) v81 H4) H4) ⟨fun v82 H5 =>
 @opi _ (lift (afieldAddrR (some 4) (fr 8)) H5) ⟨fun v83 H6 =>
 @opi _ (lift (aloadR (some none) v83 H6) H6) ⟨fun v84 H7 =>
 @opi _ (lift (some (fr 9)) H7) ⟨fun v85 H8 =>
 @opi _ (lift (aindexAddrR (.sl 10) v84 v85) H8) ⟨fun v86 H9 =>
 @opi _ (lift (aloadR (some (some 10)) v86 H9) H9) ⟨fun v87 H10 =>
 @opi _ (lift (abinR (.c [.i, .i, .i, .i, .i, .i, .i, .i, .b, .b]) .neq v82 v87) H10) ⟨fun v88 H11 =>
 some (AFr.al [(7, fr 7), (8, fr 8), (9, fr 9), (88, v88)], H11)⟩⟩⟩⟩⟩⟩⟩⟩⟩⟩⟩)
@[simp] def r13 (fr : AFr) (H : AHeap) : ARes :=
 areg (some (AFr.al [(6, (.bool false))], H))
@[simp] def r11 (fr : AFr) (H : AHeap) : ARes :=
 areg (@opi _ (lift (abinR .x .add (fr 9) (.int .i64 1)) H) ⟨fun v77 H =>
 some (AFr.al [(7, fr 7), (8, fr 8), (9, v77)], H)⟩)
@[simp] def r14 (s4 : SpecP) (fr : AFr) (H : AHeap) : ARes :=
 areg (@opi _ (callP false s4 [] [] H) ⟨fun v89 H =>
 some (AFr.al [(6, v89)], H)⟩)
def l0 (s0 s1 s2 s3 s4 : SpecP) (fr : AFr) (H : AHeap) : ARes :=
  @aseqi (@aseqi (r10 fr H) ⟨fun fr H =>
 @acondi (fr 75)
 ⟨some (.normal, fr, H)⟩
 ⟨some (.exit 0, fr, H)⟩⟩) ⟨fun fr H =>
 @aseqi (aexit 1 (@aseqi (r12 fr H) ⟨fun fr H =>
 @acondi (fr 88)
 ⟨@aseqi (r13 fr H) ⟨fun fr H =>
 some (.ret, fr, H)⟩⟩
 ⟨some (.normal, fr, H)⟩⟩)) ⟨fun fr H =>
 r11 fr H⟩⟩
@[simp] def body (s0 s1 s2 s3 s4 : SpecP) (fr : AFr) (H : AHeap) : ARes :=
  @aseqi (r0 fr H) ⟨fun fr H =>
 @aseqi (r1 s0 s1 fr H) ⟨fun fr H =>
 @aseqi (@aseqi (r2 fr H) ⟨fun fr H =>
 @acondi (fr 15)
 ⟨r3 fr H⟩
 ⟨some (.normal, fr, H)⟩⟩) ⟨fun fr H =>
 @aseqi (r4 s2 fr H) ⟨fun fr H =>
 @aseqi (@aseqi (r5 fr H) ⟨fun fr H =>
 @acondi (fr 37)
 ⟨@aseqi (r6 s3 s4 fr H) ⟨fun fr H =>
 some (.ret, fr, H)⟩⟩
 ⟨some (.normal, fr, H)⟩⟩) ⟨fun fr H =>
 @aseqi (@aseqi (r7 fr H) ⟨fun fr H =>
 @acondi (fr 70)
 ⟨@aseqi (r8 fr H) ⟨fun fr H =>
 some (.ret, fr, H)⟩⟩
 ⟨some (.normal, fr, H)⟩⟩) ⟨fun fr H =>
 @aseqi (@aseqi (r9 fr H) ⟨fun fr H =>
  aexit 0 (aloop (l0 s0 s1 s2 s3 s4) fr H)⟩) ⟨fun fr H =>
 @aseqi (r14 s4 fr H) ⟨fun fr H =>
 some (.ret, fr, H)⟩⟩⟩⟩⟩⟩⟩⟩
@[simp] def res (fr : AFr) (H : AHeap) : Option (List AV) := res2 (some (fr 6)) (some [])
end law08_RunLonger
def law08_RunLonger (a0 a1 a2 : AV) : Option AV := closeUpR (some [[none]]) (afinR law08_RunLonger.res (law08_RunLonger.body law08_small.spec law08_few.spec run_Exec.spec ref08_Same.spec law08_lives.spec (args0 [a0, a1, a2]) AHeap.empty))
def law08_RunLonger.spec : List AV → Option AV
  | [a0, a1, a2] => law08_RunLonger a0 a1 a2
  | _ => none
namespace law08_RunBounds
@[simp] def r0 (fr : AFr) (H : AHeap) : ARes :=
 areg (@opi _ (abox T.ty_bautalaw08_Case (fr 0) H) ⟨fun v2 H =>
 some (AFr.al [(1, fr 1), (2, v2)], H)⟩)
@[simp] def r1 (s0 s1 : SpecP) (fr : AFr) (H : AHeap) : ARes :=
 areg (@opi _ (lift (aloadR (some (some 3)) (fr 2) H) H) ⟨fun v7 H =>
 @opi _ (callP false s0 [[some 1, some 1, some 1]] [v7] H) ⟨fun v8 H =>
 @opi _ (callP false s1 [[none]] [(fr 1)] H) ⟨fun v10 H =>
 @opi _ (liftS (astoreR (some 3) (fr 2) v8 H)) ⟨fun _ H =>
 some (AFr.al [(1, v10), (2, fr 2)], H)⟩⟩⟩⟩)
@[simp] def r2 (s0 : SpecP) (fr : AFr) (H : AHeap) : ARes :=
 areg (@opi _ (lift (aloadR (some (some 3)) (fr 2) H) H) ⟨fun v11 H =>
 @opi _ (callP false s0 [[some 1, some 1, some 1]] [v11] H) ⟨fun v12 H =>
 @opi _ (aallocR T.ty_bautalaw08_Case (some (.agg [.nils, .nils, .nils])) H) ⟨fun v5 H =>
 @opi _ (liftS (astoreR (some 3) v5 v12 H)) ⟨fun _ H =>
 some (AFr.al [(1, fr 1), (2, fr 2), (5, v5)], H)⟩⟩⟩⟩)
@[simp] def r3 (s2 : SpecP) (fr : AFr) (H : AHeap) : ARes :=
 areg (@opi _ (lift (afieldAddrR (some 0) (fr 2)) H) ⟨fun v13 H =>
 @opi _ (lift (aloadR (some none) v13 H) H) ⟨fun v14 H =>
 @opi _ (lift (afieldAddrR (some 1) (fr 2)) H) ⟨fun v15 H =>
 @opi _ (lift (aloadR (some none) v15 H) H) ⟨fun v16 H =>
 @opi _ (lift (afieldAddrR (some 2) (fr 2)) H) ⟨fun v17 H =>
 @opi _ (lift (aloadR (some none) v17 H) H) ⟨fun v18 H =>
 @opi _ (callP false s2 [[some 1], [some 1], [some 1], [none]] [v14, v16, v18, (fr 1)] H) ⟨fun v20 H =>
 @opi _ (aallocR T.ty_api_Outcome (some (.agg [(.int .i64 0), (.int .i64 0), (.int .i64 0), .nils, .nils])) H) ⟨fun v6 H =>
 @opi _ (liftS (astoreR (some 5) v6 v20 H)) ⟨fun _ H =>
 some (AFr.al [(1, fr 1), (2, fr 2), (5, fr 5), (6, v6)], H)⟩⟩⟩⟩⟩⟩⟩⟩⟩)
@[simp] def r4 (s3 s4 : SpecP) (fr : AFr) (H : AHeap) : ARes :=
 areg (@opi _ (lift (afieldAddrR (some 0) (fr 6)) H) ⟨fun v21 H =>
 @opi _ (lift (aloadR (some none) v21 H) H) ⟨fun v22 H =>
 @opi _ (lift (abinR .x .leq v22 (fr 1)) H) ⟨fun v24 H =>
 @opi _ (@gdi (gw v24 false) ⟨lift (some (fr 1)) H⟩ H) ⟨fun v26 H =>
 @opi _ (@gdi (gw v24 false) ⟨lift (abinR .x .lss v26 (.int .i64 0)) H⟩ H) ⟨fun v27 H =>
 @opi _ (@gdi (gw v24 false) ⟨lift (some v27) H⟩ H) ⟨fun v28 H =>
 @opi _ (@gdi (gw v28 true) ⟨lift (afieldAddrR (some 0) (fr 6)) H⟩ H) ⟨fun v29 H =>
 @opi _ (@gdi (gw v28 true) ⟨lift (aloadR (some none) v29 H) H⟩ H) ⟨fun v30 H =>
 @opi _ (@gdi (gw v28 true) ⟨lift (abinR .x .eql v30 (.int .i64 0)) H⟩ H) ⟨fun v31 H =>
 @opi _ (@gdi (gw v24 false) ⟨lift (apick v28 v31 (.bool false)) H⟩ H) ⟨fun v32 H =>
 @opi _ (lift (apick v24 (.bool true) v32) H) ⟨fun v33 H =>
 @opi _ (@gdi (gw v33 true) ⟨lift (afieldAddrR (some 1) (fr 6)) H⟩ H) ⟨fun v35 H =>
 @opi _ (@gdi (gw v33 true) ⟨lift (aloadR (some none) v35 H) H⟩ H) ⟨fun v36 H =>
 @opi _ (@gdi (gw v33 true) ⟨lift (abinR .x .geq v36 (.int .i64 0)) H⟩ H) ⟨fun v37 H =>
 @opi _ (lift (apick v33 v37 (.bool false)) H) ⟨fun v38 H =>
 @opi _ (@gdi (gw v38 true) ⟨lift (afieldAddrR (some 1) (fr 6)) H⟩ H) ⟨fun v40 H =>
 @opi _ (@gdi (gw v38 true) ⟨lift (aloadR (some none) v40 H) H⟩ H) ⟨fun v41 H =>
 @opi _ (@gdi (gw v38 true) ⟨lift (afieldAddrR (some 2) (fr 2)) H⟩ H) ⟨fun v42 H =>
 @opi _ (@gdi (gw v38 true) ⟨lift (aloadR (some none) v42 H) H⟩ H) ⟨fun v43 H =>
 @opi _ (@gdi (gw v38 true) ⟨lift (alenR .sl v43) H⟩ H) ⟨fun v44 H =>
 @opi _ (@gdi (gw v38 true) ⟨lift (abinR .x .leq v41 v44) H⟩ H) ⟨fun v45 H =>
 @opi _ (lift (apick v38 v45 (.bool false)) H) ⟨fun v46 H =>
 @opi _ (@gdi (gw v46 true) ⟨lift (afieldAddrR (some 3) (fr 6)) H⟩ H) ⟨fun v48 H =>
 @opi _ (@gdi (gw v46 true) ⟨lift (aloadR (some none) v48 H) H⟩ H) ⟨fun v49 H =>
 @opi _ (@gdi (gw v46 true) ⟨lift (alenR .sl v49) H⟩ H) ⟨fun v50 H =>
 @opi _ (@gdi (gw v46 true) ⟨lift (afieldAddrR (some 1) (fr 2)) H⟩ H) ⟨fun v51 H =>
 @opi _ (@gdi (gw v46 true) ⟨lift (aloadR (some none) v51 H) H⟩ H) ⟨fun v52 H =>
 @opi _ (@gdi (gw v46 true) ⟨lift (alenR .sl v52) H⟩ H) ⟨fun v53 H =>
 @opi _ (@gdi (gw v46 true) ⟨lift (abinR .x .eql v50 v53) H⟩ H) ⟨fun v54 H =>
 @opi _ (lift (apick v46 v54 (.bool false)) H) ⟨fun v55 H =>
 @opi _ (@gdi (gw v55 true) ⟨lift (afieldAddrR (some 1) (fr 2)) H⟩ H) ⟨fun v57 H =>
 @opi _ (@gdi (gw v55 true) ⟨lift (aloadR (some none) v57 H) H⟩ H) ⟨fun v58 H =>
 @opi _ (@gdi (gw v55 true) ⟨lift (afieldAddrR (some 1) (fr 5)) H⟩ H) ⟨fun v59 H =>
 @opi _ (@gdi (gw v55 true) ⟨lift (aloadR (some none) v59 H) H⟩ H) ⟨fun v60 H =>
 @opi _ (@gdi (gw v55 true) ⟨callP false s3 [[some 1], [some 1]] [v58, v60] H⟩ H) ⟨fun v61 H =>
 @opi _ (lift (apick v55 v61 (.bool false)) H) ⟨fun v62 H =>
 @opi _ (@gdi (gw v62 true) ⟨lift (afieldAddrR (some 2) (fr 2)) H⟩ H) ⟨fun v64 H =>
 @opi _ (@gdi (gw v62 true) ⟨lift (aloadR (some none) v64 H) H⟩ H) ⟨fun v65 H =>
 @opi _ (@gdi (gw v62 true) ⟨lift (afieldAddrR (some 2) (fr 5)) H⟩ H) ⟨fun v66 H =>
 @opi _ (@gdi (gw v62 true) ⟨lift (aloadR (some none) v66 H) H⟩ H) ⟨fun v67 H =>
 @opi _ (@gdi (gw v62 true) ⟨callP false s3 [[some 1], [some 1]] [v65, v67] H⟩ H) ⟨fun v68 H =>
 @opi _ (lift (apick v62 v68 (.bool false)) H) ⟨fun v69 H =>
 @opi _ (@gdi (gw v69 true) ⟨callP false s4 [] [] H⟩ H) ⟨fun v71 H =>
 @opi _ (lift (apick v69 v71 (.bool false)) H) ⟨fun v72 H =>
 some (AFr.al [(4, v72)], H)⟩⟩⟩⟩⟩⟩⟩⟩⟩⟩⟩⟩⟩⟩⟩⟩⟩⟩⟩⟩⟩⟩⟩⟩⟩⟩⟩⟩⟩⟩⟩⟩⟩⟩⟩⟩⟩⟩⟩⟩⟩⟩⟩⟩)
@[simp] def body (s0 s1 s2 s3 s4 : SpecP) (fr : AFr) (H : AHeap) : ARes :=
  @aseqi (r0 fr H) ⟨fun fr H =>
 @aseqi (r1 s0 s1 fr H) ⟨fun fr H =>
 @aseqi (r2 s0 fr H) ⟨fun fr H =>
 @aseqi (r3 s2 fr H) ⟨fun fr H =>
 @aseqi (r4 s3 s4 fr H) ⟨fun fr H =>
 some (.ret, fr, H)⟩⟩⟩⟩⟩
@[simp] def res (fr : AFr) (H : AHeap) : Option (List AV) := res2 (some (fr 4)) (some [])
end law08_RunBounds
def law08_RunBounds (a0 a1 : AV) : Option AV := closeUpR (some [[none]]) (afinR law08_RunBounds.res (law08_RunBounds.body law08_small.spec law08_few.spec run_Quick.spec ref05_Same.spec law08_lives.spec (args0 [a0, a1]) AHeap.empty))
namespace law08_RunRoads
def C (s0 s1 s2 s3 s4 s5 s6 : SpecP) : Tab := (((((((Tab.none.add 37 (.pure false s0)).add 39 (.pure false s1)).add 44 (.pure false s2)).add 45 (.pure false s3)).add 46 (.pure false s4)).add 47 (.pure false s5)).add 41 (.pure false s6))
@[simp] def r0 (fr : AFr) (H : AHeap) : ARes :=
 areg (@opi _ (abox T.ty_bautalaw08_Case (fr 0) H) ⟨fun v3 H =>
 some (AFr.al [(1, fr 1), (2, fr 2), (3, v3)], H)⟩)
@[simp] def r1 (s0 : SpecP) (fr : AFr) (H : AHeap) : ARes :=
 areg (@opi _ (lift (aloadR (some (some 3)) (fr 3) H) H) ⟨fun v10 H =>
 @opi _ (callP false s0 [[some 1, some 1, some 1]] [v10] H) ⟨fun v11 H =>
 @opi _ (liftS (astoreR (some 3) (fr 3) v11 H)) ⟨fun _ H =>
 some (AFr.al [(1, fr 1), (2, fr 2), (3, fr 3)], H)⟩⟩⟩)
@[simp] def r2 (s0 : SpecP) (fr : AFr) (H : AHeap) : ARes :=
 areg (@opi _ (lift (afieldAddrR (some 0) (fr 3)) H) ⟨fun v12 H =>
 @opi _ (lift (aloadR (some none) v12 H) H) ⟨fun v13 H =>
 @opi _ (lift (abuildR (.str [.nils, .nils, .nils] [(0, 1), (1, 1), (2, 1)]) [(0, v13), (1, (fr 1)), (2, (fr 2))]) H) ⟨fun v16 H =>
 @opi _ (callP false s0 [[some 1, some 1, some 1]] [v16] H) ⟨fun v17 H =>
 @opi _ (aallocR T.ty_bautalaw08_Case (some (.agg [.nils, .nils, .nils])) H) ⟨fun v7 H =>
 @opi _ (liftS (astoreR (some 3) v7 v17 H)) ⟨fun _ H =>
 some (AFr.al [(3, fr 3), (7, v7)], H)⟩⟩⟩⟩⟩⟩)
@[simp] def r3 (s1 : SpecP) (fr : AFr) (H : AHeap) : ARes :=
 areg (@opi _ (lift (afieldAddrR (some 0) (fr 3)) H) ⟨fun v18 H1 =>
 @opi _ (lift (aloadR (some none) v18 H1) H1) ⟨fun v19 H2 =>
 @opi _ (lift (afieldAddrR (some 1) (fr 3)) H2) ⟨fun v20 H3 =>
 @opi _ (lift (aloadR (some none) v20 H3) H3) ⟨fun v21 H4 =>
 @opi _ (lift (afieldAddrR (some 2) (fr 3)) H4) ⟨fun v22 H5 =>
 @opi _ (lift (aloadR (some none) v22 H5) H5) ⟨fun v23 H6 =>
 @opi _ (callP false s1 [[some 1], [some 1], [some 1], [none]] [v19, v21, v23, (.int .i64 200)] H6) ⟨fun v24 H7 =>
 @opi _ (lift (afieldAddrR (some 0) (fr 7)) H7) ⟨fun v25 H8 =>
 @opi _ (lift (aloadR (some none) v25 H8) H8) ⟨fun v26 H9 =>
 @opi _ (lift (afieldAddrR (some 1) (fr 7)) H9) ⟨fun v27 H10 =>
 @opi _ (lift (aloadR (some none) v27 H10) H10) ⟨fun v28 H11 =>
 @opi _ (lift (afieldAddrR (some 2) (fr 7)) H11) ⟨fun v29 H12 =>
 @opi _ (lift (aloadR (some none) v29 H12) H12) ⟨fun v30 H13 =>
 @opi _ (callP false s1 [[some 1], [some 1], [some 1], [none]] [v26, v28, v30, (.int .i64 200)] H13) ⟨fun v31 H14 =>
 @opi _ (aallocR T.ty_api_Outcome (some (.agg [(.int .i64 0), (.int .i64 0), (.int .i64 0), .nils, .nils])) H14) ⟨fun v8 H15 =>
 @opi _ (aallocR T.ty_api_Outcome (some (.agg [(.int .i64 0), (.int .i64 0), (.int .i64 0), .nils, .nils])) H15) ⟨fun v9 H16 =>
 @opi _ (liftS (astoreR (some 5) v8 v24 H16)) ⟨fun _ H17 =>
 @opi _ (liftS (astoreR (some 5) v9 v31 H17)) ⟨fun _ H18 =>
 withChk [aloadR (some none) v25 H6 = aloadR (some none) v25 H7, aloadR (some none) v27 H6 = aloadR (some none) v27 H7, aloadR (some none) v29 H6 = aloadR (some none) v29 H7] (some (AFr.al [(8, v8), (9, v9)], H18))⟩⟩⟩⟩⟩⟩⟩⟩⟩⟩⟩⟩⟩⟩⟩⟩⟩⟩)
@[simp] def r4 (s2 s3 s4 s5 s6 : SpecP) (fr : AFr) (H : AHeap) : ARes :=
 areg (@opi _ (lift (afieldAddrR (some 4) (fr 8)) H) ⟨fun v32 H1 =>
 @opi _ (lift (aloadR (some none) v32 H1) H1) ⟨fun v33 H2 =>
 @opi _ (lift (afieldAddrR (some 4) (fr 9)) H2) ⟨fun v34 H3 =>
 @opi _ (lift (aloadR (some none) v34 H3) H3) ⟨fun v35 H4 =>
 @opi _ (callP false s2 [[some 10], [some 10]] [v33, v35] H4) ⟨fun v36 H5 =>
 @opi _ (lift (afieldAddrR (some 4) (fr 8)) H5) ⟨fun v37 H6 =>
 @opi _ (lift (aloadR (some none) v37 H6) H6) ⟨fun v38 H7 =>
 @opi _ (lift (afieldAddrR (some 4) (fr 9)) H7) ⟨fun v39 H8 =>
 @opi _ (lift (aloadR (some none) v39 H8) H8) ⟨fun v40 H9 =>
 @opi _ (callP false s3 [[some 10], [some 10]] [v38, v40] H9) ⟨fun v41 H10 =>
 @opi _ (lift (abinR .b .eql v36 v41) H10) ⟨fun v42 H11 =>
 @opi _ (lift (some v42) H11) ⟨fun v43 H12 =>
 @opi _ (@gdi (gw v43 true) ⟨lift (afieldAddrR (some 4) (fr 8)) H12⟩ H12) ⟨fun v44 H13 =>
 @opi _ (@gdi (gw v43 true) ⟨lift (aloadR (some none) v44 H13) H13⟩ H13) ⟨fun v45 H14 =>
 @opi _ (@gdi (gw v43 true) ⟨callP false s4 [[some 10]] [v45] H14⟩ H14) ⟨fun v46 H15 =>
 @opi _ (@gdi (gw v43 true) ⟨lift (afieldAddrR (some 4) (fr 8)) H15⟩ H15) ⟨fun v47 H16 =>
 @opi _ (@gdi (gw v43 true) ⟨lift (aloadR (some none) v47 H16) H16⟩ H16) ⟨fun v48 H17 =>
 @opi _ (@gdi (gw v43 true) ⟨callP false s5 [[some 10]] [v48] H17⟩ H17) ⟨fun v49 H18 =>
 @opi _ (@gdi (gw v43 true) ⟨lift (abinR .x .eql v46 v49) H18⟩ H18) ⟨fun v50 H19 =>
 @opi _ (lift (apick v43 v50 (.bool false)) H19) ⟨fun v51 H20 =>
 @opi _ (lift (some v51) H20) ⟨fun v52 H21 =>
 @opi _ (@gdi (gw v52 true) ⟨lift (afieldAddrR (some 4) (fr 8)) H21⟩ H21) ⟨fun v53 H22 =>
 @opi _ (@gdi (gw v52 true) ⟨lift (aloadR (some none) v53 H22) H22⟩ H22) ⟨fun v54 H23 =>
 @opi _ (@gdi (gw v52 true) ⟨lift (afieldAddrR (some 4) (fr 8)) H23⟩ H23) ⟨fun v55 H24 =>
 @opi _ (@gdi (gw v52 true) ⟨lift (aloadR (some none) v55 H24) H24⟩ H24) ⟨fun v56 H25 =>
 @opi _ (@gdi (gw v52 true) ⟨callP false s2 [[some 10], [some 10]] [v54, v56] H25⟩ H25) ⟨fun v57 H26 =>
 @opi _ (lift (apick v52 v57 (.bool false)) H26) ⟨fun v58 H27 =>
 @opi _ (lift (some v58) H27) ⟨fun v59 H28 =>
 @opi _ (@gdi (gw v59 true) ⟨callP false s6 [] [] H28⟩ H28) ⟨fun v60 H29 =>
 @opi _ (lift (apick v59 v60 (.bool false)) H29) ⟨fun v61 H30 =>
 @opi _ (lift (some v61) H30) ⟨fun v6 H31 =>
 withChk [aloadR (some none) v37 H4 = aloadR (some none) v37 H5, aloadR (some none) v39 H4 = aloadR (some none) v39 H5, aloadR (some none) v47 H14 = aloadR (some none) v47 H15] (some (AFr.al [(6, v6)], H31))⟩⟩⟩⟩⟩⟩⟩⟩⟩⟩⟩⟩⟩⟩⟩⟩⟩⟩⟩⟩⟩⟩⟩⟩⟩⟩⟩⟩⟩⟩⟩)
@[simp] def body (s0 s1 s2 s3 s4 s5 s6 : SpecP) (fr : AFr) (H : AHeap) : ARes :=
  @aseqi (r0 fr H) ⟨fun fr H =>
 @aseqi (r1 s0 fr H) ⟨fun fr H =>
 @aseqi (r2 s0 fr H) ⟨fun fr H =>
 @aseqi (r3 s1 fr H) ⟨fun fr H =>
 @aseqi (r4 s2 s3 s4 s5 s6 fr H) ⟨fun fr H =>
 some (.ret, fr, H)⟩⟩⟩⟩⟩
@[simp] def res (fr : AFr) (H : AHeap) : Option (List AV) := res2 (some (fr 6)) (some [])
end law08_RunRoads
def law08_RunRoads (a0 a1 a2 : AV) : Option AV := closeUpR (some [[none]]) (afinR law08_RunRoads.res (law08_RunRoads.body law08_small.spec run_Exec.spec run_Road.spec ref08_Road.spec run_Cycles.spec ref08_Cycles.spec law08_lives.spec (args0 [a0, a1, a2]) AHeap.empty))
def law08_RunRoads.spec : List AV → Option AV
  | [a0, a1, a2] => law08_RunRoads a0 a1 a2
  | _ => none
end
end Go.Abs
