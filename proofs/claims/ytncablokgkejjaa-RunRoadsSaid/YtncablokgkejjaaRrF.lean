/-
  The functions, as they are over abstract values. Printed by gen.py.
-/
import Derived.Test.YtncablokgkejjaaLoF
import Derived.Test.YtncablokgkejjaaLrF
set_option linter.unusedVariables false
namespace Go.Abs
noncomputable section
namespace ref08_Same
@[simp] def r0 (fr : AFr) (H : AHeap) : ARes :=
 areg (@opi _ (abox T.ty_api_Outcome (fr 0) H) ⟨fun v2 H =>
 @opi _ (abox T.ty_api_Outcome (fr 1) H) ⟨fun v3 H =>
 some (AFr.al [(2, v2), (3, v3)], H)⟩⟩)
@[simp] def r1 (s0 : SpecP) (fr : AFr) (H : AHeap) : ARes :=
 areg (@opi _ (lift (afieldAddrR (some 0) (fr 2)) H) ⟨fun v6 H =>
 @opi _ (lift (aloadR (some none) v6 H) H) ⟨fun v7 H =>
 @opi _ (lift (afieldAddrR (some 0) (fr 3)) H) ⟨fun v8 H =>
 @opi _ (lift (aloadR (some none) v8 H) H) ⟨fun v9 H =>
 @opi _ (lift (abinR .x .neq v7 v9) H) ⟨fun v10 H =>
 @opi _ (@gdi (gw v10 false) ⟨lift (afieldAddrR (some 1) (fr 2)) H⟩ H) ⟨fun v12 H =>
 @opi _ (@gdi (gw v10 false) ⟨lift (aloadR (some none) v12 H) H⟩ H) ⟨fun v13 H =>
 @opi _ (@gdi (gw v10 false) ⟨lift (afieldAddrR (some 1) (fr 3)) H⟩ H) ⟨fun v14 H =>
 @opi _ (@gdi (gw v10 false) ⟨lift (aloadR (some none) v14 H) H⟩ H) ⟨fun v15 H =>
 @opi _ (@gdi (gw v10 false) ⟨lift (abinR .x .neq v13 v15) H⟩ H) ⟨fun v16 H =>
 @opi _ (lift (apick v10 (.bool true) v16) H) ⟨fun v17 H =>
 @opi _ (@gdi (gw v17 false) ⟨lift (afieldAddrR (some 2) (fr 2)) H⟩ H) ⟨fun v19 H =>
 @opi _ (@gdi (gw v17 false) ⟨lift (aloadR (some none) v19 H) H⟩ H) ⟨fun v20 H =>
 @opi _ (@gdi (gw v17 false) ⟨lift (afieldAddrR (some 2) (fr 3)) H⟩ H) ⟨fun v21 H =>
 @opi _ (@gdi (gw v17 false) ⟨lift (aloadR (some none) v21 H) H⟩ H) ⟨fun v22 H =>
 @opi _ (@gdi (gw v17 false) ⟨lift (abinR .x .neq v20 v22) H⟩ H) ⟨fun v23 H =>
 @opi _ (lift (apick v17 (.bool true) v23) H) ⟨fun v24 H =>
 @opi _ (@gdi (gw v24 false) ⟨lift (afieldAddrR (some 3) (fr 2)) H⟩ H) ⟨fun v26 H =>
 @opi _ (@gdi (gw v24 false) ⟨lift (aloadR (some none) v26 H) H⟩ H) ⟨fun v27 H =>
 @opi _ (@gdi (gw v24 false) ⟨lift (afieldAddrR (some 3) (fr 3)) H⟩ H) ⟨fun v28 H =>
 @opi _ (@gdi (gw v24 false) ⟨lift (aloadR (some none) v28 H) H⟩ H) ⟨fun v29 H =>
 @opi _ (@gdi (gw v24 false) ⟨callP false s0 [[some 1], [some 1]] [v27, v29] H⟩ H) ⟨fun v30 H =>
 @opi _ (@gdi (gw v24 false) ⟨lift (aun .not v30) H⟩ H) ⟨fun v31 H =>
 @opi _ (lift (apick v24 (.bool true) v31) H) ⟨fun v32 H =>
 @opi _ (@gdi (gw v32 false) ⟨lift (afieldAddrR (some 4) (fr 2)) H⟩ H) ⟨fun v34 H =>
 @opi _ (@gdi (gw v32 false) ⟨lift (aloadR (some none) v34 H) H⟩ H) ⟨fun v35 H =>
 @opi _ (@gdi (gw v32 false) ⟨lift (alenR .sl v35) H⟩ H) ⟨fun v36 H =>
 @opi _ (@gdi (gw v32 false) ⟨lift (afieldAddrR (some 4) (fr 3)) H⟩ H) ⟨fun v37 H =>
 @opi _ (@gdi (gw v32 false) ⟨lift (aloadR (some none) v37 H) H⟩ H) ⟨fun v38 H =>
 @opi _ (@gdi (gw v32 false) ⟨lift (alenR .sl v38) H⟩ H) ⟨fun v39 H =>
 @opi _ (@gdi (gw v32 false) ⟨lift (abinR .x .neq v36 v39) H⟩ H) ⟨fun v40 H =>
 @opi _ (lift (apick v32 (.bool true) v40) H) ⟨fun v41 H =>
 some (AFr.al [(2, fr 2), (3, fr 3), (41, v41)], H)⟩⟩⟩⟩⟩⟩⟩⟩⟩⟩⟩⟩⟩⟩⟩⟩⟩⟩⟩⟩⟩⟩⟩⟩⟩⟩⟩⟩⟩⟩⟩⟩)
@[simp] def r2 (fr : AFr) (H : AHeap) : ARes :=
 areg (some (AFr.al [(4, (.bool false))], H))
@[simp] def r3 (fr : AFr) (H : AHeap) : ARes :=
 areg (some (AFr.al [(2, fr 2), (3, fr 3), (5, (.int .i64 0))], H))
@[simp] def r4 (fr : AFr) (H : AHeap) : ARes :=
 areg (@opi _ (lift (afieldAddrR (some 4) (fr 2)) H) ⟨fun v43 H =>
 @opi _ (lift (aloadR (some none) v43 H) H) ⟨fun v44 H =>
 @opi _ (lift (alenR .sl v44) H) ⟨fun v45 H =>
 @opi _ (lift (abinR .x .lss (fr 5) v45) H) ⟨fun v46 H =>
 some (AFr.al [(2, fr 2), (3, fr 3), (5, fr 5), (46, v46)], H)⟩⟩⟩⟩)
@[simp] def r6 (fr : AFr) (H : AHeap) : ARes :=
 areg (@opi _ (lift (afieldAddrR (some 4) (fr 2)) H) ⟨fun v49 H1 =>
 @opi _ (lift (aloadR (some none) v49 H1) H1) ⟨fun v50 H2 =>
 @opi _ (lift (some (fr 5)) H2) ⟨fun v51 H3 =>
 @opi _ (lift (aindexAddrR (.sl 10) v50 v51) H3) ⟨fun v52 H4 =>
 @opi _ (lift (aloadR (some (some 10)) v52 H4) H4) ⟨fun v53 H5 =>
 @opi _ (lift (afieldAddrR (some 4) (fr 3)) H5) ⟨fun v54 H6 =>
 @opi _ (lift (aloadR (some none) v54 H6) H6) ⟨fun v55 H7 =>
 @opi _ (lift (some (fr 5)) H7) ⟨fun v56 H8 =>
 @opi _ (lift (aindexAddrR (.sl 10) v55 v56) H8) ⟨fun v57 H9 =>
 @opi _ (lift (aloadR (some (some 10)) v57 H9) H9) ⟨fun v58 H10 =>
 @opi _ (lift (abinR (.c [.i, .i, .i, .i, .i, .i, .i, .i, .b, .b]) .neq v53 v58) H10) ⟨fun v59 H11 =>
 some (AFr.al [(2, fr 2), (3, fr 3), (5, fr 5), (59, v59)], H11)⟩⟩⟩⟩⟩⟩⟩⟩⟩⟩⟩)
@[simp] def r7 (fr : AFr) (H : AHeap) : ARes :=
 areg (some (AFr.al [(4, (.bool false))], H))
@[simp] def r5 (fr : AFr) (H : AHeap) : ARes :=
 areg (@opi _ (lift (abinR .x .add (fr 5) (.int .i64 1)) H) ⟨fun v48 H =>
 some (AFr.al [(2, fr 2), (3, fr 3), (5, v48)], H)⟩)
@[simp] def r8 (fr : AFr) (H : AHeap) : ARes :=
 areg (some (AFr.al [(4, (.bool true))], H))
def l0 (s0 : SpecP) (fr : AFr) (H : AHeap) : ARes :=
  @aseqi (@aseqi (r4 fr H) ⟨fun fr H =>
 @acondi (fr 46)
 ⟨some (.normal, fr, H)⟩
 ⟨some (.exit 0, fr, H)⟩⟩) ⟨fun fr H =>
 @aseqi (aexit 1 (@aseqi (r6 fr H) ⟨fun fr H =>
 @acondi (fr 59)
 ⟨@aseqi (r7 fr H) ⟨fun fr H =>
 some (.ret, fr, H)⟩⟩
 ⟨some (.normal, fr, H)⟩⟩)) ⟨fun fr H =>
 r5 fr H⟩⟩
@[simp] def body (s0 : SpecP) (fr : AFr) (H : AHeap) : ARes :=
  @aseqi (r0 fr H) ⟨fun fr H =>
 @aseqi (@aseqi (r1 s0 fr H) ⟨fun fr H =>
 @acondi (fr 41)
 ⟨@aseqi (r2 fr H) ⟨fun fr H =>
 some (.ret, fr, H)⟩⟩
 ⟨some (.normal, fr, H)⟩⟩) ⟨fun fr H =>
 @aseqi (@aseqi (r3 fr H) ⟨fun fr H =>
  aexit 0 (aloop (l0 s0) fr H)⟩) ⟨fun fr H =>
 @aseqi (r8 fr H) ⟨fun fr H =>
 some (.ret, fr, H)⟩⟩⟩⟩
@[simp] def res (fr : AFr) (H : AHeap) : Option (List AV) := res2 (some (fr 4)) (some [])
end ref08_Same
def ref08_Same (a0 a1 : AV) : Option AV := closeUpR (some [[none]]) (afinR ref08_Same.res (ref08_Same.body ref05_Same.spec (args0 [a0, a1]) AHeap.empty))
def ref08_Same.spec : List AV → Option AV
  | [a0, a1] => ref08_Same a0 a1
  | _ => none
namespace ref08_Road
def C (s0 : SpecP) : Tab := (Tab.none.add 32 (.pure false s0))
@[simp] def r0 (fr : AFr) (H : AHeap) : ARes :=
 areg (some (AFr.al [(0, fr 0), (1, fr 1)], H))
@[simp] def r1 (fr : AFr) (H : AHeap) : ARes :=
 areg (@opi _ (lift (alenR .sl (fr 0)) H) ⟨fun v7 H =>
 @opi _ (lift (alenR .sl (fr 1)) H) ⟨fun v9 H =>
 @opi _ (lift (abinR .x .neq v7 v9) H) ⟨fun v10 H =>
 some (AFr.al [(0, fr 0), (1, fr 1), (10, v10)], H)⟩⟩⟩)
@[simp] def r2 (fr : AFr) (H : AHeap) : ARes :=
 areg (some (AFr.al [(4, (.bool false))], H))
@[simp] def r3 (fr : AFr) (H : AHeap) : ARes :=
 areg (some (AFr.al [(0, fr 0), (1, fr 1), (5, (.int .i64 0))], H))
@[simp] def r4 (fr : AFr) (H : AHeap) : ARes :=
 areg (@opi _ (lift (alenR .sl (fr 0)) H) ⟨fun v13 H =>
 @opi _ (lift (abinR .x .lss (fr 5) v13) H) ⟨fun v14 H =>
 some (AFr.al [(0, fr 0), (1, fr 1), (5, fr 5), (14, v14)], H)⟩⟩)
@[simp] def r6 (s0 : SpecP) (fr : AFr) (H : AHeap) : ARes :=
 areg (@opi _ (lift (some (fr 0)) H) ⟨fun v17 H1 =>
 @opi _ (lift (some (fr 5)) H1) ⟨fun v18 H2 =>
 @opi _ (lift (aindexAddrR (.sl 10) v17 v18) H2) ⟨fun v19 H3 =>
 @opi _ (lift (aloadR (some (some 10)) v19 H3) H3) ⟨fun v20 H4 =>
 @opi _ (lift (some (fr 1)) H4) ⟨fun v21 H5 =>
 @opi _ (lift (some (fr 5)) H5) ⟨fun v22 H6 =>
 @opi _ (lift (aindexAddrR (.sl 10) v21 v22) H6) ⟨fun v23 H7 =>
 @opi _ (lift (aloadR (some (some 10)) v23 H7) H7) ⟨fun v24 H8 =>
 @opi _ (callP false s0 [[none, none, none, none, none, none, none, none, none, none], [none, none, none, none, none, none, none, none, none, none]] [v20, v24] H8) ⟨fun v25 H9 =>
 @opi _ (lift (aun .not v25) H9) ⟨fun v26 H10 =>
 some (AFr.al [(0, fr 0), (1, fr 1), (5, fr 5), (26, v26)], H10)⟩⟩⟩⟩⟩⟩⟩⟩⟩⟩)
@[simp] def r7 (fr : AFr) (H : AHeap) : ARes :=
 areg (some (AFr.al [(4, (.bool false))], H))
@[simp] def r5 (fr : AFr) (H : AHeap) : ARes :=
 areg (@opi _ (lift (abinR .x .add (fr 5) (.int .i64 1)) H) ⟨fun v16 H =>
 some (AFr.al [(0, fr 0), (1, fr 1), (5, v16)], H)⟩)
@[simp] def r8 (fr : AFr) (H : AHeap) : ARes :=
 areg (some (AFr.al [(4, (.bool true))], H))
def l0 (s0 : SpecP) (fr : AFr) (H : AHeap) : ARes :=
  @aseqi (@aseqi (r4 fr H) ⟨fun fr H =>
 @acondi (fr 14)
 ⟨some (.normal, fr, H)⟩
 ⟨some (.exit 0, fr, H)⟩⟩) ⟨fun fr H =>
 @aseqi (aexit 1 (@aseqi (r6 s0 fr H) ⟨fun fr H =>
 @acondi (fr 26)
 ⟨@aseqi (r7 fr H) ⟨fun fr H =>
 some (.ret, fr, H)⟩⟩
 ⟨some (.normal, fr, H)⟩⟩)) ⟨fun fr H =>
 r5 fr H⟩⟩
@[simp] def body (s0 : SpecP) (fr : AFr) (H : AHeap) : ARes :=
  @aseqi (r0 fr H) ⟨fun fr H =>
 @aseqi (@aseqi (r1 fr H) ⟨fun fr H =>
 @acondi (fr 10)
 ⟨@aseqi (r2 fr H) ⟨fun fr H =>
 some (.ret, fr, H)⟩⟩
 ⟨some (.normal, fr, H)⟩⟩) ⟨fun fr H =>
 @aseqi (@aseqi (r3 fr H) ⟨fun fr H =>
  aexit 0 (aloop (l0 s0) fr H)⟩) ⟨fun fr H =>
 @aseqi (r8 fr H) ⟨fun fr H =>
 some (.ret, fr, H)⟩⟩⟩⟩
@[simp] def res (fr : AFr) (H : AHeap) : Option (List AV) := res2 (some (fr 4)) (some [])
end ref08_Road
def ref08_Road (a0 a1 : AV) : Option AV := closeUpR (some [[none]]) (afinR ref08_Road.res (ref08_Road.body ref07_Control.spec (args0 [a0, a1]) AHeap.empty))
def ref08_Road.spec : List AV → Option AV
  | [a0, a1] => ref08_Road a0 a1
  | _ => none
namespace ref08_Cycles
def C (s0 : SpecP) : Tab := (Tab.none.add 57 (.pure false s0))
@[simp] def r0 (fr : AFr) (H : AHeap) : ARes :=
 areg (some (AFr.al [(0, fr 0)], H))
@[simp] def r1 (fr : AFr) (H : AHeap) : ARes :=
 areg (some (AFr.al [(0, fr 0), (3, (.int .i64 0))], H))
@[simp] def r2 (fr : AFr) (H : AHeap) : ARes :=
 areg (some (AFr.al [(0, fr 0), (3, fr 3), (4, (.int .i64 0))], H))
@[simp] def r3 (fr : AFr) (H : AHeap) : ARes :=
 areg (@opi _ (lift (alenR .sl (fr 0)) H) ⟨fun v9 H =>
 @opi _ (lift (abinR .x .lss (fr 4) v9) H) ⟨fun v10 H =>
 some (AFr.al [(0, fr 0), (3, fr 3), (4, fr 4), (10, v10)], H)⟩⟩)
@[simp] def r5 (s0 : SpecP) (fr : AFr) (H : AHeap) : ARes :=
 areg (@opi _ (lift (aindexAddrR (.sl 10) (fr 0) (fr 4)) H) ⟨fun v16 H =>
 @opi _ (lift (afieldAddrR (some 1) v16) H) ⟨fun v17 H =>
 @opi _ (lift (aloadR (some none) v17 H) H) ⟨fun v18 H =>
 @opi _ (callP false s0 [[none]] [v18] H) ⟨fun v19 H =>
 @opi _ (lift (aextract v19 0) H) ⟨fun v20 H =>
 @opi _ (lift (aextract v19 1) H) ⟨fun v21 H =>
 @opi _ (aallocR T.ty_api_Ins (some (.agg [(.int .i64 0), (.int .i64 0), (.int .i64 0), (.int .i64 0), (.int .i64 0)])) H) ⟨fun v5 H =>
 @opi _ (liftS (astoreR (some 5) v5 v20 H)) ⟨fun _ H =>
 some (AFr.al [(0, fr 0), (3, fr 3), (4, fr 4), (5, v5)], H)⟩⟩⟩⟩⟩⟩⟩⟩)
@[simp] def r6 (fr : AFr) (H : AHeap) : ARes :=
 areg (@opi _ (lift (abinR .x .add (fr 3) (.int .i64 1)) H) ⟨fun v23 H =>
 some (AFr.al [(0, fr 0), (3, v23), (4, fr 4), (5, fr 5)], H)⟩)
@[simp] def r7 (fr : AFr) (H : AHeap) : ARes :=
 areg (@opi _ (lift (aindexAddrR (.sl 10) (fr 0) (fr 4)) H) ⟨fun v26 H =>
 @opi _ (lift (afieldAddrR (some 8) v26) H) ⟨fun v27 H =>
 @opi _ (lift (aloadR (some none) v27 H) H) ⟨fun v28 H =>
 some (AFr.al [(0, fr 0), (3, fr 3), (4, fr 4), (5, fr 5), (28, v28)], H)⟩⟩⟩)
@[simp] def r8 (fr : AFr) (H : AHeap) : ARes :=
 areg (@opi _ (lift (abinR .x .add (fr 3) (.int .i64 1)) H) ⟨fun v30 H =>
 some (AFr.al [(0, fr 0), (3, v30), (4, fr 4)], H)⟩)
@[simp] def r9 (fr : AFr) (H : AHeap) : ARes :=
 areg (@opi _ (lift (afieldAddrR (some 0) (fr 5)) H) ⟨fun v31 H1 =>
 @opi _ (lift (aloadR (some none) v31 H1) H1) ⟨fun v32 H2 =>
 @opi _ (lift (abinR .x .eql v32 (.int .i64 17)) H2) ⟨fun v33 H3 =>
 @opi _ (lift (some v33) H3) ⟨fun v34 H4 =>
 @opi _ (@gdi (gw v34 false) ⟨lift (afieldAddrR (some 0) (fr 5)) H4⟩ H4) ⟨fun v35 H5 =>
 @opi _ (@gdi (gw v34 false) ⟨lift (aloadR (some none) v35 H5) H5⟩ H5) ⟨fun v36 H6 =>
 @opi _ (@gdi (gw v34 false) ⟨lift (abinR .x .eql v36 (.int .i64 18)) H6⟩ H6) ⟨fun v37 H7 =>
 @opi _ (lift (apick v34 (.bool true) v37) H7) ⟨fun v38 H8 =>
 @opi _ (lift (some v38) H8) ⟨fun v39 H9 =>
 @opi _ (@gdi (gw v39 true) ⟨lift (some (fr 4)) H9⟩ H9) ⟨fun v40 H10 =>
 @opi _ (@gdi (gw v39 true) ⟨lift (abinR .x .add v40 (.int .i64 1)) H10⟩ H10) ⟨fun v41 H11 =>
 @opi _ (@gdi (gw v39 true) ⟨lift (some (fr 0)) H11⟩ H11) ⟨fun v42 H12 =>
 @opi _ (@gdi (gw v39 true) ⟨lift (alenR .sl v42) H12⟩ H12) ⟨fun v43 H13 =>
 @opi _ (@gdi (gw v39 true) ⟨lift (abinR .x .lss v41 v43) H13⟩ H13) ⟨fun v44 H14 =>
 @opi _ (lift (apick v39 v44 (.bool false)) H14) ⟨fun v45 H15 =>
 @opi _ (lift (some v45) H15) ⟨fun v46 H16 =>
 @opi _ (@gdi (gw v46 true) ⟨lift (some (fr 0)) H16⟩ H16) ⟨fun v47 H17 =>
 @opi _ (@gdi (gw v46 true) ⟨lift (some (fr 4)) H17⟩ H17) ⟨fun v48 H18 =>
 @opi _ (@gdi (gw v46 true) ⟨lift (abinR .x .add v48 (.int .i64 1)) H18⟩ H18) ⟨fun v49 H19 =>
 @opi _ (@gdi (gw v46 true) ⟨lift (aindexAddrR (.sl 10) v47 v49) H19⟩ H19) ⟨fun v50 H20 =>
 @opi _ (@gdi (gw v46 true) ⟨lift (afieldAddrR (some 0) v50) H20⟩ H20) ⟨fun v51 H21 =>
 @opi _ (@gdi (gw v46 true) ⟨lift (aloadR (some none) v51 H21) H21⟩ H21) ⟨fun v52 H22 =>
 @opi _ (@gdi (gw v46 true) ⟨lift (some (fr 0)) H22⟩ H22) ⟨fun v53 H23 =>
 @opi _ (@gdi (gw v46 true) ⟨lift (some (fr 4)) H23⟩ H23) ⟨fun v54 H24 =>
 @opi _ (@gdi (gw v46 true) ⟨lift (aindexAddrR (.sl 10) v53 v54) H24⟩ H24) ⟨fun v55 H25 =>
 @opi _ (@gdi (gw v46 true) ⟨lift (afieldAddrR (some 0) v55) H25⟩ H25) ⟨fun v56 H26 =>
 @opi _ (@gdi (gw v46 true) ⟨lift (aloadR (some none) v56 H26) H26⟩ H26) ⟨fun v57 H27 =>
 @opi _ (@gdi (gw v46 true) ⟨lift (abinR .x .add v57 (W32 2#32)) H27⟩ H27) ⟨fun v58 H28 =>
 @opi _ (@gdi (gw v46 true) ⟨lift (abinR .x .neq v52 v58) H28⟩ H28) ⟨fun v59 H29 =>
 @opi _ (lift (apick v46 v59 (.bool false)) H29) ⟨fun v60 H30 =>
 some (AFr.al [(0, fr 0), (3, fr 3), (4, fr 4), (60, v60)], H30)⟩⟩⟩⟩⟩⟩⟩⟩⟩⟩⟩⟩⟩⟩⟩⟩⟩⟩⟩⟩⟩⟩⟩⟩⟩⟩⟩⟩⟩⟩)
@[simp] def r10 (fr : AFr) (H : AHeap) : ARes :=
 areg (@opi _ (lift (abinR .x .add (fr 3) (.int .i64 2)) H) ⟨fun v62 H =>
 some (AFr.al [(0, fr 0), (3, v62), (4, fr 4)], H)⟩)
@[simp] def r4 (fr : AFr) (H : AHeap) : ARes :=
 areg (@opi _ (lift (abinR .x .add (fr 4) (.int .i64 1)) H) ⟨fun v12 H =>
 some (AFr.al [(0, fr 0), (3, fr 3), (4, v12)], H)⟩)
@[simp] def r11 (fr : AFr) (H : AHeap) : ARes :=
 areg (some (AFr.al [(2, (fr 3))], H))
def l0 (s0 : SpecP) (fr : AFr) (H : AHeap) : ARes :=
  @aseqi (@aseqi (r3 fr H) ⟨fun fr H =>
 @acondi (fr 10)
 ⟨some (.normal, fr, H)⟩
 ⟨some (.exit 0, fr, H)⟩⟩) ⟨fun fr H =>
 @aseqi (aexit 1 (@aseqi (r5 s0 fr H) ⟨fun fr H =>
 @aseqi (r6 fr H) ⟨fun fr H =>
 @aseqi (r7 fr H) ⟨fun fr H =>
 @acondi (fr 28)
 ⟨r8 fr H⟩
 ⟨@aseqi (r9 fr H) ⟨fun fr H =>
 @acondi (fr 60)
 ⟨r10 fr H⟩
 ⟨some (.normal, fr, H)⟩⟩⟩⟩⟩⟩)) ⟨fun fr H =>
 r4 fr H⟩⟩
@[simp] def body (s0 : SpecP) (fr : AFr) (H : AHeap) : ARes :=
  @aseqi (r0 fr H) ⟨fun fr H =>
 @aseqi (r1 fr H) ⟨fun fr H =>
 @aseqi (@aseqi (r2 fr H) ⟨fun fr H =>
  aexit 0 (aloop (l0 s0) fr H)⟩) ⟨fun fr H =>
 @aseqi (r11 fr H) ⟨fun fr H =>
 some (.ret, fr, H)⟩⟩⟩⟩
@[simp] def res (fr : AFr) (H : AHeap) : Option (List AV) := res2 (some (fr 2)) (some [])
end ref08_Cycles
def ref08_Cycles (a0 : AV) : Option AV := closeUpR (some [[none]]) (afinR ref08_Cycles.res (ref08_Cycles.body ref02_Take.spec (args0 [a0]) AHeap.empty))
def ref08_Cycles.spec : List AV → Option AV
  | [a0] => ref08_Cycles a0
  | _ => none
end
end Go.Abs
