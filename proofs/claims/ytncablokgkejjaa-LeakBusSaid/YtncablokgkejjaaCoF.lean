/-
  The functions, as they are over abstract values. Printed by gen.py.
-/
import Derived.Test.YtncablokgkejjaaLoF
set_option linter.unusedVariables false
namespace Go.Abs
noncomputable section
namespace core_holds
def C : Tab := Tab.none
@[simp] def r0 (fr : AFr) (H : AHeap) : ARes :=
 areg (@opi _ (abox T.ty_api_State (fr 1) H) ⟨fun v3 H =>
 some (AFr.al [(0, fr 0), (3, v3)], H)⟩)
@[simp] def r1 (fr : AFr) (H : AHeap) : ARes :=
 areg (some (AFr.al [(0, fr 0), (3, fr 3), (5, (.bool false))], H))
@[simp] def r2 (fr : AFr) (H : AHeap) : ARes :=
 areg (@opi _ (lift (abinR .x .quo (fr 0) (.int .i64 2)) H) ⟨fun v7 H =>
 some (AFr.al [(0, fr 0), (3, fr 3), (5, fr 5), (7, v7)], H)⟩)
@[simp] def r3 (fr : AFr) (H : AHeap) : ARes :=
 areg (@opi _ (lift (abinR .x .eql (fr 7) (.int .i64 0)) H) ⟨fun v9 H =>
 some (AFr.al [(0, fr 0), (3, fr 3), (5, fr 5), (7, fr 7), (8, v9)], H)⟩)
@[simp] def r4 (fr : AFr) (H : AHeap) : ARes :=
 areg (@opi _ (lift (afieldAddrR (some 10) (fr 3)) H) ⟨fun v10 H =>
 @opi _ (lift (aloadR (some none) v10 H) H) ⟨fun v11 H =>
 some (AFr.al [(0, fr 0), (5, v11)], H)⟩⟩)
@[simp] def r5 (fr : AFr) (H : AHeap) : ARes :=
 areg (@opi _ (lift (abinR .x .eql (fr 7) (.int .i64 1)) H) ⟨fun v13 H =>
 some (AFr.al [(0, fr 0), (3, fr 3), (5, fr 5), (7, fr 7), (12, v13)], H)⟩)
@[simp] def r6 (fr : AFr) (H : AHeap) : ARes :=
 areg (@opi _ (lift (afieldAddrR (some 11) (fr 3)) H) ⟨fun v14 H =>
 @opi _ (lift (aloadR (some none) v14 H) H) ⟨fun v15 H =>
 some (AFr.al [(0, fr 0), (5, v15)], H)⟩⟩)
@[simp] def r7 (fr : AFr) (H : AHeap) : ARes :=
 areg (@opi _ (lift (abinR .x .eql (fr 7) (.int .i64 2)) H) ⟨fun v17 H =>
 some (AFr.al [(0, fr 0), (3, fr 3), (5, fr 5), (7, fr 7), (16, v17)], H)⟩)
@[simp] def r8 (fr : AFr) (H : AHeap) : ARes :=
 areg (@opi _ (lift (afieldAddrR (some 9) (fr 3)) H) ⟨fun v18 H =>
 @opi _ (lift (aloadR (some none) v18 H) H) ⟨fun v19 H =>
 some (AFr.al [(0, fr 0), (5, v19)], H)⟩⟩)
@[simp] def r9 (fr : AFr) (H : AHeap) : ARes :=
 areg (@opi _ (lift (abinR .x .eql (fr 7) (.int .i64 3)) H) ⟨fun v21 H =>
 some (AFr.al [(0, fr 0), (3, fr 3), (5, fr 5), (7, fr 7), (20, v21)], H)⟩)
@[simp] def r10 (fr : AFr) (H : AHeap) : ARes :=
 areg (@opi _ (lift (afieldAddrR (some 12) (fr 3)) H) ⟨fun v22 H =>
 @opi _ (lift (aloadR (some none) v22 H) H) ⟨fun v23 H =>
 some (AFr.al [(0, fr 0), (5, v23)], H)⟩⟩)
@[simp] def r11 (fr : AFr) (H : AHeap) : ARes :=
 areg (@opi _ (lift (abinR .x .eql (fr 7) (.int .i64 4)) H) ⟨fun v25 H =>
 some (AFr.al [(0, fr 0), (3, fr 3), (5, fr 5), (7, fr 7), (24, v25)], H)⟩)
@[simp] def r12 (fr : AFr) (H : AHeap) : ARes :=
 areg (@opi _ (lift (afieldAddrR (some 11) (fr 3)) H) ⟨fun v26 H =>
 @opi _ (lift (aloadR (some none) v26 H) H) ⟨fun v27 H =>
 @opi _ (@gdi (gw v27 true) ⟨lift (afieldAddrR (some 10) (fr 3)) H⟩ H) ⟨fun v29 H =>
 @opi _ (@gdi (gw v27 true) ⟨lift (aloadR (some none) v29 H) H⟩ H) ⟨fun v30 H =>
 @opi _ (@gdi (gw v27 true) ⟨lift (aun .not v30) H⟩ H) ⟨fun v31 H =>
 @opi _ (lift (apick v27 v31 (.bool false)) H) ⟨fun v32 H =>
 some (AFr.al [(0, fr 0), (5, v32)], H)⟩⟩⟩⟩⟩⟩)
@[simp] def r13 (fr : AFr) (H : AHeap) : ARes :=
 areg (@opi _ (lift (abinR .x .eql (fr 7) (.int .i64 5)) H) ⟨fun v34 H =>
 some (AFr.al [(0, fr 0), (3, fr 3), (5, fr 5), (7, fr 7), (33, v34)], H)⟩)
@[simp] def r14 (fr : AFr) (H : AHeap) : ARes :=
 areg (@opi _ (lift (afieldAddrR (some 9) (fr 3)) H) ⟨fun v35 H =>
 @opi _ (lift (aloadR (some none) v35 H) H) ⟨fun v36 H =>
 @opi _ (lift (afieldAddrR (some 12) (fr 3)) H) ⟨fun v37 H =>
 @opi _ (lift (aloadR (some none) v37 H) H) ⟨fun v38 H =>
 @opi _ (lift (abinR .b .eql v36 v38) H) ⟨fun v39 H =>
 some (AFr.al [(0, fr 0), (5, v39)], H)⟩⟩⟩⟩⟩)
@[simp] def r15 (fr : AFr) (H : AHeap) : ARes :=
 areg (@opi _ (lift (abinR .x .eql (fr 7) (.int .i64 6)) H) ⟨fun v41 H =>
 some (AFr.al [(0, fr 0), (3, fr 3), (5, fr 5), (40, v41)], H)⟩)
@[simp] def r16 (fr : AFr) (H : AHeap) : ARes :=
 areg (@opi _ (lift (afieldAddrR (some 10) (fr 3)) H) ⟨fun v42 H =>
 @opi _ (lift (aloadR (some none) v42 H) H) ⟨fun v43 H =>
 @opi _ (lift (aun .not v43) H) ⟨fun v44 H =>
 @opi _ (@gdi (gw v44 true) ⟨lift (afieldAddrR (some 9) (fr 3)) H⟩ H) ⟨fun v46 H =>
 @opi _ (@gdi (gw v44 true) ⟨lift (aloadR (some none) v46 H) H⟩ H) ⟨fun v47 H =>
 @opi _ (@gdi (gw v44 true) ⟨lift (afieldAddrR (some 12) (fr 3)) H⟩ H) ⟨fun v48 H =>
 @opi _ (@gdi (gw v44 true) ⟨lift (aloadR (some none) v48 H) H⟩ H) ⟨fun v49 H =>
 @opi _ (@gdi (gw v44 true) ⟨lift (abinR .b .eql v47 v49) H⟩ H) ⟨fun v50 H =>
 @opi _ (lift (apick v44 v50 (.bool false)) H) ⟨fun v51 H =>
 some (AFr.al [(0, fr 0), (5, v51)], H)⟩⟩⟩⟩⟩⟩⟩⟩⟩)
@[simp] def r17 (fr : AFr) (H : AHeap) : ARes :=
 areg (@opi _ (lift (abinR .x .rem (fr 0) (.int .i64 2)) H) ⟨fun v54 H =>
 @opi _ (lift (abinR .x .eql v54 (.int .i64 0)) H) ⟨fun v55 H =>
 @opi _ (lift (abinR .b .eql (fr 5) v55) H) ⟨fun v56 H =>
 some (AFr.al [(4, v56)], H)⟩⟩⟩)
@[simp] def body (fr : AFr) (H : AHeap) : ARes :=
  @aseqi (r0 fr H) ⟨fun fr H =>
 @aseqi (r1 fr H) ⟨fun fr H =>
 @aseqi (@aseqi (r2 fr H) ⟨fun fr H =>
  aexit 0 (@aseqi (r3 fr H) ⟨fun fr H =>
 @acondi (fr 8)
 ⟨r4 fr H⟩
 ⟨@aseqi (r5 fr H) ⟨fun fr H =>
 @acondi (fr 12)
 ⟨r6 fr H⟩
 ⟨@aseqi (r7 fr H) ⟨fun fr H =>
 @acondi (fr 16)
 ⟨r8 fr H⟩
 ⟨@aseqi (r9 fr H) ⟨fun fr H =>
 @acondi (fr 20)
 ⟨r10 fr H⟩
 ⟨@aseqi (r11 fr H) ⟨fun fr H =>
 @acondi (fr 24)
 ⟨r12 fr H⟩
 ⟨@aseqi (r13 fr H) ⟨fun fr H =>
 @acondi (fr 33)
 ⟨r14 fr H⟩
 ⟨@aseqi (r15 fr H) ⟨fun fr H =>
 @acondi (fr 40)
 ⟨r16 fr H⟩
 ⟨some (.normal, fr, H)⟩⟩⟩⟩⟩⟩⟩⟩⟩⟩⟩⟩⟩⟩)⟩) ⟨fun fr H =>
 @aseqi (r17 fr H) ⟨fun fr H =>
 some (.ret, fr, H)⟩⟩⟩⟩
@[simp] def res (fr : AFr) (H : AHeap) : Option (List AV) := res2 (some (fr 4)) (some [])
end core_holds
def core_holds (a0 a1 : AV) : Option AV := closeUpR (some [[none]]) (afinR core_holds.res (core_holds.body (args0 [a0, a1]) AHeap.empty))
def core_holds.spec : List AV → Option AV
  | [a0, a1] => core_holds a0 a1
  | _ => none
namespace core_addr
def C : Tab := Tab.none
@[simp] def r0 (fr : AFr) (H : AHeap) : ARes :=
 areg (@opi _ (abox T.ty_api_State (fr 0) H) ⟨fun v2 H =>
 @opi _ (abox T.ty_api_Ins (fr 1) H) ⟨fun v3 H =>
 some (AFr.al [(2, v2), (3, v3)], H)⟩⟩)
@[simp] def r1 (fr : AFr) (H : AHeap) : ARes :=
 areg (@opi _ (lift (afieldAddrR (some 0) (fr 3)) H) ⟨fun v5 H =>
 @opi _ (lift (aloadR (some none) v5 H) H) ⟨fun v6 H =>
 some (AFr.al [(2, fr 2), (3, fr 3), (6, v6)], H)⟩⟩)
@[simp] def r2 (fr : AFr) (H : AHeap) : ARes :=
 areg (@opi _ (lift (abinR .x .eql (fr 6) (.int .i64 14)) H) ⟨fun v8 H =>
 some (AFr.al [(2, fr 2), (3, fr 3), (6, fr 6), (7, v8)], H)⟩)
@[simp] def r3 (fr : AFr) (H : AHeap) : ARes :=
 areg (@opi _ (lift (abinR .x .eql (fr 6) (.int .i64 15)) H) ⟨fun v9 H =>
 some (AFr.al [(2, fr 2), (3, fr 3), (6, fr 6), (7, v9)], H)⟩)
@[simp] def r4 (fr : AFr) (H : AHeap) : ARes :=
 areg (@opi _ (lift (afieldAddrR (some 2) (fr 3)) H) ⟨fun v10 H1 =>
 @opi _ (lift (aloadR (some none) v10 H1) H1) ⟨fun v11 H2 =>
 @opi _ (lift (afieldAddrR (some 0) (fr 2)) H2) ⟨fun v12 H3 =>
 @opi _ (lift (aindexAddrR (.arr 8 1) v12 v11) H3) ⟨fun v13 H4 =>
 @opi _ (lift (aloadR (some none) v13 H4) H4) ⟨fun v14 H5 =>
 @opi _ (lift (afieldAddrR (some 3) (fr 3)) H5) ⟨fun v15 H6 =>
 @opi _ (lift (aloadR (some none) v15 H6) H6) ⟨fun v16 H7 =>
 @opi _ (lift (afieldAddrR (some 0) (fr 2)) H7) ⟨fun v17 H8 =>
 @opi _ (lift (aindexAddrR (.arr 8 1) v17 v16) H8) ⟨fun v18 H9 =>
 @opi _ (lift (aloadR (some none) v18 H9) H9) ⟨fun v19 H10 =>
 @opi _ (lift (abinR .x .add v14 v19) H10) ⟨fun v20 H11 =>
 @opi _ (lift (some v20) H11) ⟨fun v4 H12 =>
 some (AFr.al [(4, v4)], H12)⟩⟩⟩⟩⟩⟩⟩⟩⟩⟩⟩⟩)
@[simp] def r5 (fr : AFr) (H : AHeap) : ARes :=
 areg (@opi _ (lift (abinR .x .eql (fr 6) (.int .i64 16)) H) ⟨fun v22 H =>
 some (AFr.al [(2, fr 2), (3, fr 3), (21, v22)], H)⟩)
@[simp] def r6 (fr : AFr) (H : AHeap) : ARes :=
 areg (@opi _ (lift (afieldAddrR (some 8) (fr 2)) H) ⟨fun v23 H =>
 @opi _ (lift (aloadR (some none) v23 H) H) ⟨fun v24 H =>
 @opi _ (lift (abinR .x .add v24 (W32 4#32)) H) ⟨fun v25 H =>
 @opi _ (lift (abinR .x .andNot v25 (W32 3#32)) H) ⟨fun v26 H =>
 @opi _ (lift (afieldAddrR (some 4) (fr 3)) H) ⟨fun v27 H =>
 @opi _ (lift (aloadR (some none) v27 H) H) ⟨fun v28 H =>
 @opi _ (lift (aconvR (some .u32) v28) H) ⟨fun v29 H =>
 @opi _ (lift (abinR .x .mul (W32 4#32) v29) H) ⟨fun v30 H =>
 @opi _ (lift (abinR .x .add v26 v30) H) ⟨fun v31 H =>
 some (AFr.al [(4, v31)], H)⟩⟩⟩⟩⟩⟩⟩⟩⟩)
@[simp] def r7 (fr : AFr) (H : AHeap) : ARes :=
 areg (@opi _ (lift (afieldAddrR (some 2) (fr 3)) H) ⟨fun v32 H1 =>
 @opi _ (lift (aloadR (some none) v32 H1) H1) ⟨fun v33 H2 =>
 @opi _ (lift (afieldAddrR (some 0) (fr 2)) H2) ⟨fun v34 H3 =>
 @opi _ (lift (aindexAddrR (.arr 8 1) v34 v33) H3) ⟨fun v35 H4 =>
 @opi _ (lift (aloadR (some none) v35 H4) H4) ⟨fun v36 H5 =>
 @opi _ (lift (afieldAddrR (some 4) (fr 3)) H5) ⟨fun v37 H6 =>
 @opi _ (lift (aloadR (some none) v37 H6) H6) ⟨fun v38 H7 =>
 @opi _ (lift (aconvR (some .u32) v38) H7) ⟨fun v39 H8 =>
 @opi _ (lift (abinR .x .mul (W32 4#32) v39) H8) ⟨fun v40 H9 =>
 @opi _ (lift (abinR .x .add v36 v40) H9) ⟨fun v41 H10 =>
 @opi _ (lift (some v41) H10) ⟨fun v4 H11 =>
 some (AFr.al [(4, v4)], H11)⟩⟩⟩⟩⟩⟩⟩⟩⟩⟩⟩)
@[simp] def body (fr : AFr) (H : AHeap) : ARes :=
  @aseqi (r0 fr H) ⟨fun fr H =>
 @aseqi (@aseqi (r1 fr H) ⟨fun fr H =>
  aexit 0 (@aseqi (@aseqi (r2 fr H) ⟨fun fr H =>
 @acondi (fr 7)
 ⟨some (.normal, fr, H)⟩
 ⟨r3 fr H⟩⟩) ⟨fun fr H =>
 @acondi (fr 7)
 ⟨@aseqi (r4 fr H) ⟨fun fr H =>
 some (.ret, fr, H)⟩⟩
 ⟨@aseqi (r5 fr H) ⟨fun fr H =>
 @acondi (fr 21)
 ⟨@aseqi (r6 fr H) ⟨fun fr H =>
 some (.ret, fr, H)⟩⟩
 ⟨some (.normal, fr, H)⟩⟩⟩⟩)⟩) ⟨fun fr H =>
 @aseqi (r7 fr H) ⟨fun fr H =>
 some (.ret, fr, H)⟩⟩⟩
@[simp] def res (fr : AFr) (H : AHeap) : Option (List AV) := res2 (some (fr 4)) (some [])
end core_addr
def core_addr (a0 a1 : AV) : Option AV := closeUpR (some [[none]]) (afinR core_addr.res (core_addr.body (args0 [a0, a1]) AHeap.empty))
def core_addr.spec : List AV → Option AV
  | [a0, a1] => core_addr a0 a1
  | _ => none
namespace core_moves
def C (s0 : SpecP) (s1 s2 : SpecM) : Tab := (((Tab.none.add 79 (.pure false s0)).add 78 (.ref [false, false, false] s1)).add 34 (.ref [false, false] s2))
@[simp] def r0 (fr : AFr) (H : AHeap) : ARes :=
 areg (@opi _ (abox T.ty_api_State (fr 0) H) ⟨fun v3 H =>
 @opi _ (abox T.ty_api_Ins (fr 1) H) ⟨fun v4 H =>
 @opi _ (aallocR T.ty_api_State (some (.agg [(W32 0#32), (W32 0#32), (W32 0#32), (W32 0#32), (W32 0#32), (W32 0#32), (W32 0#32), (W32 0#32), (W32 0#32), (.bool false), (.bool false), (.bool false), (.bool false)])) H) ⟨fun v6 H =>
 some (AFr.al [(2, fr 2), (3, v3), (4, v4), (6, v6)], H)⟩⟩⟩)
@[simp] def r1 (fr : AFr) (H : AHeap) : ARes :=
 areg (@opi _ (lift (afieldAddrR (some 0) (fr 4)) H) ⟨fun v10 H =>
 @opi _ (lift (aloadR (some none) v10 H) H) ⟨fun v11 H =>
 @opi _ (lift (abinR .x .eql v11 (.int .i64 13)) H) ⟨fun v12 H =>
 @opi _ (@gdi (gw v12 false) ⟨lift (afieldAddrR (some 0) (fr 4)) H⟩ H) ⟨fun v14 H =>
 @opi _ (@gdi (gw v12 false) ⟨lift (aloadR (some none) v14 H) H⟩ H) ⟨fun v15 H =>
 @opi _ (@gdi (gw v12 false) ⟨lift (abinR .x .eql v15 (.int .i64 15)) H⟩ H) ⟨fun v16 H =>
 @opi _ (lift (apick v12 (.bool true) v16) H) ⟨fun v17 H =>
 some (AFr.al [(2, fr 2), (3, fr 3), (4, fr 4), (6, fr 6), (17, v17)], H)⟩⟩⟩⟩⟩⟩⟩)
@[simp] def r2 (s0 : SpecP) (s1 : SpecM) (fr : AFr) (H : AHeap) : ARes :=
 areg (@opi _ (lift (aloadR (some (some 13)) (fr 3) H) H) ⟨fun v18 H1 =>
 @opi _ (lift (some (fr 2)) H1) ⟨fun v19 H2 =>
 @opi _ (lift (aloadR (some (some 13)) (fr 3) H2) H2) ⟨fun v20 H3 =>
 @opi _ (lift (aloadR (some (some 5)) (fr 4) H3) H3) ⟨fun v21 H4 =>
 @opi _ (callP false s0 [[none, none, none, none, none, none, none, none, none, none, none, none, none], [none, none, none, none, none]] [v20, v21] H4) ⟨fun v22 H5 =>
 @opi _ (lift (afieldAddrR (some 1) (fr 4)) H5) ⟨fun v23 H6 =>
 @opi _ (lift (aloadR (some none) v23 H6) H6) ⟨fun v24 H7 =>
 @opi _ (lift (afieldAddrR (some 0) (fr 3)) H7) ⟨fun v25 H8 =>
 @opi _ (lift (aindexAddrR (.arr 8 1) v25 v24) H8) ⟨fun v26 H9 =>
 @opi _ (lift (aloadR (some none) v26 H9) H9) ⟨fun v27 H10 =>
 @opi _ (san H10 (callM [false, false, false] s1 [[none], [none], [none]] [v19, v22, v27] H10)) ⟨fun v28 H11 =>
 @opi _ (liftS (astoreR (some 13) (fr 6) v18 H11)) ⟨fun _ H12 =>
 @opi _ (lift (some v28) H12) ⟨fun v7 H13 =>
 withChk [aloadR (some (some 13)) (fr 3) H4 = aloadR (some (some 13)) (fr 3) H5, aloadR (some (some 13)) (fr 3) H10 = aloadR (some (some 13)) (fr 3) H11, aloadR (some none) v23 H4 = aloadR (some none) v23 H5, aloadR (some none) v26 H4 = aloadR (some none) v26 H5] (some (AFr.al [(6, fr 6), (7, v7)], H13))⟩⟩⟩⟩⟩⟩⟩⟩⟩⟩⟩⟩⟩)
@[simp] def r3 (s0 : SpecP) (s2 : SpecM) (fr : AFr) (H : AHeap) : ARes :=
 areg (@opi _ (lift (aloadR (some (some 13)) (fr 3) H) H) ⟨fun v31 H =>
 @opi _ (lift (aloadR (some (some 5)) (fr 4) H) H) ⟨fun v32 H =>
 @opi _ (callP false s0 [[none, none, none, none, none, none, none, none, none, none, none, none, none], [none, none, none, none, none]] [v31, v32] H) ⟨fun v33 H =>
 @opi _ (callM [false, false] s2 [[none], [none]] [(fr 2), v33] H) ⟨fun v34 H =>
 @opi _ (lift (aextract v34 0) H) ⟨fun v35 H =>
 @opi _ (lift (aextract v34 1) H) ⟨fun v36 H =>
 some (AFr.al [(3, fr 3), (4, fr 4), (6, fr 6), (8, v35), (9, v36)], H)⟩⟩⟩⟩⟩⟩)
@[simp] def r4 (fr : AFr) (H : AHeap) : ARes :=
 areg (@opi _ (lift (abinR .x .eql (fr 9) (.int .i64 0)) H) ⟨fun v38 H =>
 some (AFr.al [(3, fr 3), (4, fr 4), (6, fr 6), (8, fr 8), (9, fr 9), (38, v38)], H)⟩)
@[simp] def r5 (fr : AFr) (H : AHeap) : ARes :=
 areg (@opi _ (lift (afieldAddrR (some 1) (fr 4)) H) ⟨fun v39 H =>
 @opi _ (lift (aloadR (some none) v39 H) H) ⟨fun v40 H =>
 @opi _ (lift (afieldAddrR (some 0) (fr 3)) H) ⟨fun v42 H =>
 @opi _ (lift (aindexAddrR (.arr 8 1) v42 v40) H) ⟨fun v43 H =>
 @opi _ (liftS (astoreR (some 1) v43 (fr 8) H)) ⟨fun _ H =>
 some (AFr.al [(3, fr 3), (6, fr 6), (9, fr 9)], H)⟩⟩⟩⟩⟩)
@[simp] def r6 (fr : AFr) (H : AHeap) : ARes :=
 areg (@opi _ (lift (aloadR (some (some 13)) (fr 3) H) H) ⟨fun v44 H =>
 @opi _ (liftS (astoreR (some 13) (fr 6) v44 H)) ⟨fun _ H =>
 some (AFr.al [(6, fr 6), (7, (fr 9))], H)⟩⟩)
@[simp] def body (s0 : SpecP) (s1 s2 : SpecM) (fr : AFr) (H : AHeap) : ARes :=
  @aseqi (r0 fr H) ⟨fun fr H =>
 @aseqi (@aseqi (r1 fr H) ⟨fun fr H =>
 @acondi (fr 17)
 ⟨@aseqi (r2 s0 s1 fr H) ⟨fun fr H =>
 some (.ret, fr, H)⟩⟩
 ⟨some (.normal, fr, H)⟩⟩) ⟨fun fr H =>
 @aseqi (r3 s0 s2 fr H) ⟨fun fr H =>
 @aseqi (@aseqi (r4 fr H) ⟨fun fr H =>
 @acondi (fr 38)
 ⟨r5 fr H⟩
 ⟨some (.normal, fr, H)⟩⟩) ⟨fun fr H =>
 @aseqi (r6 fr H) ⟨fun fr H =>
 some (.ret, fr, H)⟩⟩⟩⟩⟩
@[simp] def res (fr : AFr) (H : AHeap) : Option (List AV) := res2 (aloadR (some (some 13)) (fr 6) H) (res2 (some (fr 7)) (some []))
end core_moves
def core_moves (a0 a1 a2 : AV) (H : AHeap) : Option (AV × AHeap) := forget H (afinR core_moves.res (core_moves.body core_addr.spec mem_Mem_Store.spec mem_Mem_Load.spec (args0 [a0, a1, a2]) H))
def core_moves.spec : List AV → AHeap → Option (AV × AHeap)
  | [a0, a1, a2], H => core_moves a0 a1 a2 H
  | _, _ => none
namespace core_flags
def C : Tab := Tab.none
@[simp] def r0 (fr : AFr) (H : AHeap) : ARes :=
 areg (@opi _ (abox T.ty_api_State (fr 0) H) ⟨fun v2 H =>
 @opi _ (aallocR T.ty_api_State (some (.agg [(W32 0#32), (W32 0#32), (W32 0#32), (W32 0#32), (W32 0#32), (W32 0#32), (W32 0#32), (W32 0#32), (W32 0#32), (.bool false), (.bool false), (.bool false), (.bool false)])) H) ⟨fun v4 H =>
 some (AFr.al [(1, fr 1), (2, v2), (4, v4)], H)⟩⟩)
@[simp] def r1 (fr : AFr) (H : AHeap) : ARes :=
 areg (@opi _ (lift (abinR .x .and (fr 1) (W32 2147483648#32)) H) ⟨fun v6 H =>
 @opi _ (lift (abinR .x .neq v6 (W32 0#32)) H) ⟨fun v7 H =>
 @opi _ (lift (abinR .x .eql (fr 1) (W32 0#32)) H) ⟨fun v9 H =>
 @opi _ (lift (afieldAddrR (some 9) (fr 2)) H) ⟨fun v10 H =>
 @opi _ (liftS (astoreR (some 1) v10 v7 H)) ⟨fun _ H =>
 @opi _ (lift (afieldAddrR (some 10) (fr 2)) H) ⟨fun v11 H =>
 @opi _ (liftS (astoreR (some 1) v11 v9 H)) ⟨fun _ H =>
 some (AFr.al [(2, fr 2), (4, fr 4)], H)⟩⟩⟩⟩⟩⟩⟩)
@[simp] def r2 (fr : AFr) (H : AHeap) : ARes :=
 areg (@opi _ (lift (aloadR (some (some 13)) (fr 2) H) H) ⟨fun v12 H =>
 @opi _ (liftS (astoreR (some 13) (fr 4) v12 H)) ⟨fun _ H =>
 some (AFr.al [(4, fr 4)], H)⟩⟩)
@[simp] def body (fr : AFr) (H : AHeap) : ARes :=
  @aseqi (r0 fr H) ⟨fun fr H =>
 @aseqi (r1 fr H) ⟨fun fr H =>
 @aseqi (r2 fr H) ⟨fun fr H =>
 some (.ret, fr, H)⟩⟩⟩
@[simp] def res (fr : AFr) (H : AHeap) : Option (List AV) := res2 (aloadR (some (some 13)) (fr 4) H) (some [])
end core_flags
def core_flags (a0 a1 : AV) : Option AV := closeUpR (some [[none, none, none, none, none, none, none, none, none, none, none, none, none]]) (afinR core_flags.res (core_flags.body (args0 [a0, a1]) AHeap.empty))
def core_flags.spec : List AV → Option AV
  | [a0, a1] => core_flags a0 a1
  | _ => none
namespace core_add
def C (s0 s1 : SpecP) : Tab := ((Tab.none.add 91 (.pure false s0)).add 80 (.pure false s1))
@[simp] def r0 (fr : AFr) (H : AHeap) : ARes :=
 areg (@opi _ (abox T.ty_api_State (fr 0) H) ⟨fun v4 H =>
 @opi _ (aallocR T.ty_api_State (some (.agg [(W32 0#32), (W32 0#32), (W32 0#32), (W32 0#32), (W32 0#32), (W32 0#32), (W32 0#32), (W32 0#32), (W32 0#32), (.bool false), (.bool false), (.bool false), (.bool false)])) H) ⟨fun v8 H =>
 some (AFr.al [(1, fr 1), (2, fr 2), (3, fr 3), (4, v4), (8, v8)], H)⟩⟩)
@[simp] def r1 (s0 : SpecP) (fr : AFr) (H : AHeap) : ARes :=
 areg (@opi _ (callP false s0 [[none], [none], [none]] [(fr 1), (fr 2), (fr 3)] H) ⟨fun v17 H =>
 @opi _ (lift (aextract v17 0) H) ⟨fun v18 H =>
 @opi _ (lift (aextract v17 1) H) ⟨fun v19 H =>
 @opi _ (lift (aextract v17 2) H) ⟨fun v20 H =>
 some (AFr.al [(4, fr 4), (8, fr 8), (10, v18), (11, v19), (12, v20)], H)⟩⟩⟩⟩)
@[simp] def r2 (fr : AFr) (H : AHeap) : ARes :=
 areg (@opi _ (lift (afieldAddrR (some 11) (fr 4)) H) ⟨fun v23 H =>
 @opi _ (liftS (astoreR (some 1) v23 (fr 11) H)) ⟨fun _ H =>
 @opi _ (lift (afieldAddrR (some 12) (fr 4)) H) ⟨fun v24 H =>
 @opi _ (liftS (astoreR (some 1) v24 (fr 12) H)) ⟨fun _ H =>
 some (AFr.al [(4, fr 4), (8, fr 8), (10, fr 10)], H)⟩⟩⟩⟩)
@[simp] def r3 (s1 : SpecP) (fr : AFr) (H : AHeap) : ARes :=
 areg (@opi _ (lift (aloadR (some (some 13)) (fr 4) H) H) ⟨fun v25 H =>
 @opi _ (callP false s1 [[none, none, none, none, none, none, none, none, none, none, none, none, none], [none]] [v25, (fr 10)] H) ⟨fun v27 H =>
 @opi _ (liftS (astoreR (some 13) (fr 8) v27 H)) ⟨fun _ H =>
 some (AFr.al [(8, fr 8), (9, (fr 10))], H)⟩⟩⟩)
@[simp] def body (s0 s1 : SpecP) (fr : AFr) (H : AHeap) : ARes :=
  @aseqi (r0 fr H) ⟨fun fr H =>
 @aseqi (r1 s0 fr H) ⟨fun fr H =>
 @aseqi (r2 fr H) ⟨fun fr H =>
 @aseqi (r3 s1 fr H) ⟨fun fr H =>
 some (.ret, fr, H)⟩⟩⟩⟩
@[simp] def res (fr : AFr) (H : AHeap) : Option (List AV) := res2 (aloadR (some (some 13)) (fr 8) H) (res2 (some (fr 9)) (some []))
end core_add
def core_add (a0 a1 a2 a3 : AV) : Option AV := closeUpR (some [[none, none, none, none, none, none, none, none, none, none, none, none, none], [none]]) (afinR core_add.res (core_add.body word_Add.spec core_flags.spec (args0 [a0, a1, a2, a3]) AHeap.empty))
def core_add.spec : List AV → Option AV
  | [a0, a1, a2, a3] => core_add a0 a1 a2 a3
  | _ => none
namespace core_shift
def C (s0 s1 : SpecP) : Tab := ((Tab.none.add 92 (.pure false s0)).add 80 (.pure false s1))
@[simp] def r0 (fr : AFr) (H : AHeap) : ARes :=
 areg (@opi _ (abox T.ty_api_State (fr 0) H) ⟨fun v4 H =>
 @opi _ (aallocR T.ty_api_State (some (.agg [(W32 0#32), (W32 0#32), (W32 0#32), (W32 0#32), (W32 0#32), (W32 0#32), (W32 0#32), (W32 0#32), (W32 0#32), (.bool false), (.bool false), (.bool false), (.bool false)])) H) ⟨fun v8 H =>
 some (AFr.al [(1, fr 1), (2, fr 2), (3, fr 3), (4, v4), (8, v8)], H)⟩⟩)
@[simp] def r1 (s0 : SpecP) (fr : AFr) (H : AHeap) : ARes :=
 areg (@opi _ (lift (afieldAddrR (some 11) (fr 4)) H) ⟨fun v16 H =>
 @opi _ (lift (aloadR (some none) v16 H) H) ⟨fun v17 H =>
 @opi _ (callP false s0 [[none], [none], [none], [none]] [(fr 1), (fr 2), (fr 3), v17] H) ⟨fun v18 H =>
 @opi _ (lift (aextract v18 0) H) ⟨fun v19 H =>
 @opi _ (lift (aextract v18 1) H) ⟨fun v20 H =>
 some (AFr.al [(4, fr 4), (8, fr 8), (10, v19), (11, v20)], H)⟩⟩⟩⟩⟩)
@[simp] def r2 (fr : AFr) (H : AHeap) : ARes :=
 areg (@opi _ (lift (afieldAddrR (some 11) (fr 4)) H) ⟨fun v22 H =>
 @opi _ (liftS (astoreR (some 1) v22 (fr 11) H)) ⟨fun _ H =>
 some (AFr.al [(4, fr 4), (8, fr 8), (10, fr 10)], H)⟩⟩)
@[simp] def r3 (s1 : SpecP) (fr : AFr) (H : AHeap) : ARes :=
 areg (@opi _ (lift (aloadR (some (some 13)) (fr 4) H) H) ⟨fun v23 H =>
 @opi _ (callP false s1 [[none, none, none, none, none, none, none, none, none, none, none, none, none], [none]] [v23, (fr 10)] H) ⟨fun v25 H =>
 @opi _ (liftS (astoreR (some 13) (fr 8) v25 H)) ⟨fun _ H =>
 some (AFr.al [(8, fr 8), (9, (fr 10))], H)⟩⟩⟩)
@[simp] def body (s0 s1 : SpecP) (fr : AFr) (H : AHeap) : ARes :=
  @aseqi (r0 fr H) ⟨fun fr H =>
 @aseqi (r1 s0 fr H) ⟨fun fr H =>
 @aseqi (r2 fr H) ⟨fun fr H =>
 @aseqi (r3 s1 fr H) ⟨fun fr H =>
 some (.ret, fr, H)⟩⟩⟩⟩
@[simp] def res (fr : AFr) (H : AHeap) : Option (List AV) := res2 (aloadR (some (some 13)) (fr 8) H) (res2 (some (fr 9)) (some []))
end core_shift
def core_shift (a0 a1 a2 a3 : AV) : Option AV := closeUpR (some [[none, none, none, none, none, none, none, none, none, none, none, none, none], [none]]) (afinR core_shift.res (core_shift.body word_Shift.spec core_flags.spec (args0 [a0, a1, a2, a3]) AHeap.empty))
def core_shift.spec : List AV → Option AV
  | [a0, a1, a2, a3] => core_shift a0 a1 a2 a3
  | _ => none
namespace core_alu
def C (s0 s1 s2 : SpecP) : Tab := (((Tab.none.add 82 (.pure false s0)).add 81 (.pure false s1)).add 80 (.pure false s2))
@[simp] def r0 (fr : AFr) (H : AHeap) : ARes :=
 areg (@opi _ (abox T.ty_api_State (fr 0) H) ⟨fun v4 H =>
 @opi _ (aallocR T.ty_api_State (some (.agg [(W32 0#32), (W32 0#32), (W32 0#32), (W32 0#32), (W32 0#32), (W32 0#32), (W32 0#32), (W32 0#32), (W32 0#32), (.bool false), (.bool false), (.bool false), (.bool false)])) H) ⟨fun v8 H =>
 some (AFr.al [(1, fr 1), (2, fr 2), (3, fr 3), (4, v4), (8, v8)], H)⟩⟩)
@[simp] def r1 (fr : AFr) (H : AHeap) : ARes :=
 areg (some (AFr.al [(1, fr 1), (2, fr 2), (3, fr 3), (4, fr 4), (8, fr 8), (10, (W32 0#32))], H))
@[simp] def r2 (fr : AFr) (H : AHeap) : ARes :=
 areg (some (AFr.al [(1, fr 1), (2, fr 2), (3, fr 3), (4, fr 4), (8, fr 8), (10, fr 10), (11, (fr 1))], H))
@[simp] def r3 (fr : AFr) (H : AHeap) : ARes :=
 areg (@opi _ (lift (abinR .x .eql (fr 11) (.int .i64 0)) H) ⟨fun v13 H =>
 some (AFr.al [(1, fr 1), (2, fr 2), (3, fr 3), (4, fr 4), (8, fr 8), (10, fr 10), (11, fr 11), (12, v13)], H)⟩)
@[simp] def r4 (fr : AFr) (H : AHeap) : ARes :=
 areg (@opi _ (lift (abinR .x .eql (fr 11) (.int .i64 8)) H) ⟨fun v14 H =>
 some (AFr.al [(1, fr 1), (2, fr 2), (3, fr 3), (4, fr 4), (8, fr 8), (10, fr 10), (11, fr 11), (12, v14)], H)⟩)
@[simp] def r5 (fr : AFr) (H : AHeap) : ARes :=
 areg (@opi _ (lift (abinR .x .and (fr 2) (fr 3)) H) ⟨fun v17 H =>
 some (AFr.al [(4, fr 4), (8, fr 8), (10, v17)], H)⟩)
@[simp] def r6 (fr : AFr) (H : AHeap) : ARes :=
 areg (@opi _ (lift (abinR .x .eql (fr 11) (.int .i64 1)) H) ⟨fun v19 H =>
 some (AFr.al [(1, fr 1), (2, fr 2), (3, fr 3), (4, fr 4), (8, fr 8), (10, fr 10), (11, fr 11), (18, v19)], H)⟩)
@[simp] def r7 (fr : AFr) (H : AHeap) : ARes :=
 areg (@opi _ (lift (abinR .x .xor (fr 2) (fr 3)) H) ⟨fun v22 H =>
 some (AFr.al [(4, fr 4), (8, fr 8), (10, v22)], H)⟩)
@[simp] def r8 (fr : AFr) (H : AHeap) : ARes :=
 areg (@opi _ (lift (abinR .x .eql (fr 11) (.int .i64 12)) H) ⟨fun v24 H =>
 some (AFr.al [(1, fr 1), (2, fr 2), (3, fr 3), (4, fr 4), (8, fr 8), (10, fr 10), (11, fr 11), (23, v24)], H)⟩)
@[simp] def r9 (fr : AFr) (H : AHeap) : ARes :=
 areg (@opi _ (lift (abinR .x .or (fr 2) (fr 3)) H) ⟨fun v27 H =>
 some (AFr.al [(4, fr 4), (8, fr 8), (10, v27)], H)⟩)
@[simp] def r10 (fr : AFr) (H : AHeap) : ARes :=
 areg (@opi _ (lift (abinR .x .eql (fr 11) (.int .i64 14)) H) ⟨fun v29 H =>
 some (AFr.al [(1, fr 1), (2, fr 2), (3, fr 3), (4, fr 4), (8, fr 8), (10, fr 10), (11, fr 11), (28, v29)], H)⟩)
@[simp] def r11 (fr : AFr) (H : AHeap) : ARes :=
 areg (@opi _ (lift (abinR .x .andNot (fr 2) (fr 3)) H) ⟨fun v32 H =>
 some (AFr.al [(4, fr 4), (8, fr 8), (10, v32)], H)⟩)
@[simp] def r12 (fr : AFr) (H : AHeap) : ARes :=
 areg (@opi _ (lift (abinR .x .eql (fr 11) (.int .i64 15)) H) ⟨fun v34 H =>
 some (AFr.al [(1, fr 1), (2, fr 2), (3, fr 3), (4, fr 4), (8, fr 8), (10, fr 10), (11, fr 11), (33, v34)], H)⟩)
@[simp] def r13 (fr : AFr) (H : AHeap) : ARes :=
 areg (@opi _ (lift (aun .xor (fr 3)) H) ⟨fun v36 H =>
 some (AFr.al [(4, fr 4), (8, fr 8), (10, v36)], H)⟩)
@[simp] def r14 (fr : AFr) (H : AHeap) : ARes :=
 areg (@opi _ (lift (abinR .x .eql (fr 11) (.int .i64 13)) H) ⟨fun v38 H =>
 some (AFr.al [(1, fr 1), (2, fr 2), (3, fr 3), (4, fr 4), (8, fr 8), (10, fr 10), (11, fr 11), (37, v38)], H)⟩)
@[simp] def r15 (fr : AFr) (H : AHeap) : ARes :=
 areg (@opi _ (lift (abinR .x .mul (fr 2) (fr 3)) H) ⟨fun v41 H =>
 some (AFr.al [(4, fr 4), (8, fr 8), (10, v41)], H)⟩)
@[simp] def r16 (fr : AFr) (H : AHeap) : ARes :=
 areg (@opi _ (lift (abinR .x .eql (fr 11) (.int .i64 2)) H) ⟨fun v43 H =>
 some (AFr.al [(1, fr 1), (2, fr 2), (3, fr 3), (4, fr 4), (8, fr 8), (10, fr 10), (11, fr 11), (42, v43)], H)⟩)
@[simp] def r17 (fr : AFr) (H : AHeap) : ARes :=
 areg (@opi _ (lift (abinR .x .eql (fr 11) (.int .i64 3)) H) ⟨fun v44 H =>
 some (AFr.al [(1, fr 1), (2, fr 2), (3, fr 3), (4, fr 4), (8, fr 8), (10, fr 10), (11, fr 11), (42, v44)], H)⟩)
@[simp] def r18 (fr : AFr) (H : AHeap) : ARes :=
 areg (@opi _ (lift (abinR .x .eql (fr 11) (.int .i64 4)) H) ⟨fun v45 H =>
 some (AFr.al [(1, fr 1), (2, fr 2), (3, fr 3), (4, fr 4), (8, fr 8), (10, fr 10), (11, fr 11), (42, v45)], H)⟩)
@[simp] def r19 (s0 : SpecP) (fr : AFr) (H : AHeap) : ARes :=
 areg (@opi _ (lift (aloadR (some (some 13)) (fr 4) H) H) ⟨fun v46 H =>
 @opi _ (lift (abinR .x .sub (fr 1) (.int .i64 2)) H) ⟨fun v48 H =>
 @opi _ (lift (abinR .x .add v48 (.int .i64 0)) H) ⟨fun v49 H =>
 @opi _ (lift (abinR .x .and (fr 3) (W32 255#32)) H) ⟨fun v52 H =>
 @opi _ (callP false s0 [[none, none, none, none, none, none, none, none, none, none, none, none, none], [none], [none], [none]] [v46, v49, (fr 2), v52] H) ⟨fun v53 H =>
 @opi _ (lift (aextract v53 0) H) ⟨fun v54 H =>
 @opi _ (lift (aextract v53 1) H) ⟨fun v55 H =>
 @opi _ (liftS (astoreR (some 13) (fr 8) v54 H)) ⟨fun _ H =>
 some (AFr.al [(8, fr 8), (9, v55)], H)⟩⟩⟩⟩⟩⟩⟩⟩)
@[simp] def r20 (fr : AFr) (H : AHeap) : ARes :=
 areg (@opi _ (lift (abinR .x .eql (fr 11) (.int .i64 7)) H) ⟨fun v57 H =>
 some (AFr.al [(2, fr 2), (3, fr 3), (4, fr 4), (8, fr 8), (10, fr 10), (11, fr 11), (56, v57)], H)⟩)
@[simp] def r21 (s0 : SpecP) (fr : AFr) (H : AHeap) : ARes :=
 areg (@opi _ (lift (aloadR (some (some 13)) (fr 4) H) H) ⟨fun v58 H =>
 @opi _ (lift (abinR .x .and (fr 3) (W32 255#32)) H) ⟨fun v61 H =>
 @opi _ (callP false s0 [[none, none, none, none, none, none, none, none, none, none, none, none, none], [none], [none], [none]] [v58, (.int .i64 3), (fr 2), v61] H) ⟨fun v62 H =>
 @opi _ (lift (aextract v62 0) H) ⟨fun v63 H =>
 @opi _ (lift (aextract v62 1) H) ⟨fun v64 H =>
 @opi _ (liftS (astoreR (some 13) (fr 8) v63 H)) ⟨fun _ H =>
 some (AFr.al [(8, fr 8), (9, v64)], H)⟩⟩⟩⟩⟩⟩)
@[simp] def r22 (fr : AFr) (H : AHeap) : ARes :=
 areg (@opi _ (lift (abinR .x .eql (fr 11) (.int .i64 5)) H) ⟨fun v66 H =>
 some (AFr.al [(2, fr 2), (3, fr 3), (4, fr 4), (8, fr 8), (10, fr 10), (11, fr 11), (65, v66)], H)⟩)
@[simp] def r23 (s1 : SpecP) (fr : AFr) (H : AHeap) : ARes :=
 areg (@opi _ (lift (aloadR (some (some 13)) (fr 4) H) H) ⟨fun v67 H =>
 @opi _ (lift (afieldAddrR (some 11) (fr 4)) H) ⟨fun v70 H =>
 @opi _ (lift (aloadR (some none) v70 H) H) ⟨fun v71 H =>
 @opi _ (callP false s1 [[none, none, none, none, none, none, none, none, none, none, none, none, none], [none], [none], [none]] [v67, (fr 2), (fr 3), v71] H) ⟨fun v72 H =>
 @opi _ (lift (aextract v72 0) H) ⟨fun v73 H =>
 @opi _ (lift (aextract v72 1) H) ⟨fun v74 H =>
 @opi _ (liftS (astoreR (some 13) (fr 8) v73 H)) ⟨fun _ H =>
 some (AFr.al [(8, fr 8), (9, v74)], H)⟩⟩⟩⟩⟩⟩⟩)
@[simp] def r24 (fr : AFr) (H : AHeap) : ARes :=
 areg (@opi _ (lift (abinR .x .eql (fr 11) (.int .i64 6)) H) ⟨fun v76 H =>
 some (AFr.al [(2, fr 2), (3, fr 3), (4, fr 4), (8, fr 8), (10, fr 10), (11, fr 11), (75, v76)], H)⟩)
@[simp] def r25 (s1 : SpecP) (fr : AFr) (H : AHeap) : ARes :=
 areg (@opi _ (lift (aloadR (some (some 13)) (fr 4) H) H) ⟨fun v77 H =>
 @opi _ (lift (aun .xor (fr 3)) H) ⟨fun v80 H =>
 @opi _ (lift (afieldAddrR (some 11) (fr 4)) H) ⟨fun v81 H =>
 @opi _ (lift (aloadR (some none) v81 H) H) ⟨fun v82 H =>
 @opi _ (callP false s1 [[none, none, none, none, none, none, none, none, none, none, none, none, none], [none], [none], [none]] [v77, (fr 2), v80, v82] H) ⟨fun v83 H =>
 @opi _ (lift (aextract v83 0) H) ⟨fun v84 H =>
 @opi _ (lift (aextract v83 1) H) ⟨fun v85 H =>
 @opi _ (liftS (astoreR (some 13) (fr 8) v84 H)) ⟨fun _ H =>
 some (AFr.al [(8, fr 8), (9, v85)], H)⟩⟩⟩⟩⟩⟩⟩⟩)
@[simp] def r26 (fr : AFr) (H : AHeap) : ARes :=
 areg (@opi _ (lift (abinR .x .eql (fr 11) (.int .i64 9)) H) ⟨fun v87 H =>
 some (AFr.al [(2, fr 2), (3, fr 3), (4, fr 4), (8, fr 8), (10, fr 10), (11, fr 11), (86, v87)], H)⟩)
@[simp] def r27 (s1 : SpecP) (fr : AFr) (H : AHeap) : ARes :=
 areg (@opi _ (lift (aloadR (some (some 13)) (fr 4) H) H) ⟨fun v88 H =>
 @opi _ (lift (aun .xor (fr 3)) H) ⟨fun v90 H =>
 @opi _ (callP false s1 [[none, none, none, none, none, none, none, none, none, none, none, none, none], [none], [none], [none]] [v88, (W32 0#32), v90, (.bool true)] H) ⟨fun v91 H =>
 @opi _ (lift (aextract v91 0) H) ⟨fun v92 H =>
 @opi _ (lift (aextract v91 1) H) ⟨fun v93 H =>
 @opi _ (liftS (astoreR (some 13) (fr 8) v92 H)) ⟨fun _ H =>
 some (AFr.al [(8, fr 8), (9, v93)], H)⟩⟩⟩⟩⟩⟩)
@[simp] def r28 (fr : AFr) (H : AHeap) : ARes :=
 areg (@opi _ (lift (abinR .x .eql (fr 11) (.int .i64 10)) H) ⟨fun v95 H =>
 some (AFr.al [(2, fr 2), (3, fr 3), (4, fr 4), (8, fr 8), (10, fr 10), (11, fr 11), (94, v95)], H)⟩)
@[simp] def r29 (s1 : SpecP) (fr : AFr) (H : AHeap) : ARes :=
 areg (@opi _ (lift (aloadR (some (some 13)) (fr 4) H) H) ⟨fun v96 H =>
 @opi _ (lift (aun .xor (fr 3)) H) ⟨fun v99 H =>
 @opi _ (callP false s1 [[none, none, none, none, none, none, none, none, none, none, none, none, none], [none], [none], [none]] [v96, (fr 2), v99, (.bool true)] H) ⟨fun v100 H =>
 @opi _ (lift (aextract v100 0) H) ⟨fun v101 H =>
 @opi _ (lift (aextract v100 1) H) ⟨fun v102 H =>
 @opi _ (liftS (astoreR (some 13) (fr 8) v101 H)) ⟨fun _ H =>
 some (AFr.al [(8, fr 8), (9, v102)], H)⟩⟩⟩⟩⟩⟩)
@[simp] def r30 (fr : AFr) (H : AHeap) : ARes :=
 areg (@opi _ (lift (abinR .x .eql (fr 11) (.int .i64 11)) H) ⟨fun v104 H =>
 some (AFr.al [(2, fr 2), (3, fr 3), (4, fr 4), (8, fr 8), (10, fr 10), (103, v104)], H)⟩)
@[simp] def r31 (s1 : SpecP) (fr : AFr) (H : AHeap) : ARes :=
 areg (@opi _ (lift (aloadR (some (some 13)) (fr 4) H) H) ⟨fun v105 H =>
 @opi _ (callP false s1 [[none, none, none, none, none, none, none, none, none, none, none, none, none], [none], [none], [none]] [v105, (fr 2), (fr 3), (.bool false)] H) ⟨fun v108 H =>
 @opi _ (lift (aextract v108 0) H) ⟨fun v109 H =>
 @opi _ (lift (aextract v108 1) H) ⟨fun v110 H =>
 @opi _ (liftS (astoreR (some 13) (fr 8) v109 H)) ⟨fun _ H =>
 some (AFr.al [(8, fr 8), (9, v110)], H)⟩⟩⟩⟩⟩)
@[simp] def r32 (s2 : SpecP) (fr : AFr) (H : AHeap) : ARes :=
 areg (@opi _ (lift (aloadR (some (some 13)) (fr 4) H) H) ⟨fun v111 H =>
 @opi _ (callP false s2 [[none, none, none, none, none, none, none, none, none, none, none, none, none], [none]] [v111, (fr 10)] H) ⟨fun v113 H =>
 @opi _ (liftS (astoreR (some 13) (fr 8) v113 H)) ⟨fun _ H =>
 some (AFr.al [(8, fr 8), (9, (fr 10))], H)⟩⟩⟩)
@[simp] def body (s0 s1 s2 : SpecP) (fr : AFr) (H : AHeap) : ARes :=
  @aseqi (r0 fr H) ⟨fun fr H =>
 @aseqi (r1 fr H) ⟨fun fr H =>
 @aseqi (@aseqi (r2 fr H) ⟨fun fr H =>
  aexit 0 (@aseqi (@aseqi (r3 fr H) ⟨fun fr H =>
 @acondi (fr 12)
 ⟨some (.normal, fr, H)⟩
 ⟨r4 fr H⟩⟩) ⟨fun fr H =>
 @acondi (fr 12)
 ⟨r5 fr H⟩
 ⟨@aseqi (r6 fr H) ⟨fun fr H =>
 @acondi (fr 18)
 ⟨r7 fr H⟩
 ⟨@aseqi (r8 fr H) ⟨fun fr H =>
 @acondi (fr 23)
 ⟨r9 fr H⟩
 ⟨@aseqi (r10 fr H) ⟨fun fr H =>
 @acondi (fr 28)
 ⟨r11 fr H⟩
 ⟨@aseqi (r12 fr H) ⟨fun fr H =>
 @acondi (fr 33)
 ⟨r13 fr H⟩
 ⟨@aseqi (r14 fr H) ⟨fun fr H =>
 @acondi (fr 37)
 ⟨r15 fr H⟩
 ⟨@aseqi (@aseqi (r16 fr H) ⟨fun fr H =>
 @acondi (fr 42)
 ⟨some (.normal, fr, H)⟩
 ⟨@aseqi (r17 fr H) ⟨fun fr H =>
 @acondi (fr 42)
 ⟨some (.normal, fr, H)⟩
 ⟨r18 fr H⟩⟩⟩⟩) ⟨fun fr H =>
 @acondi (fr 42)
 ⟨@aseqi (r19 s0 fr H) ⟨fun fr H =>
 some (.ret, fr, H)⟩⟩
 ⟨@aseqi (r20 fr H) ⟨fun fr H =>
 @acondi (fr 56)
 ⟨@aseqi (r21 s0 fr H) ⟨fun fr H =>
 some (.ret, fr, H)⟩⟩
 ⟨@aseqi (r22 fr H) ⟨fun fr H =>
 @acondi (fr 65)
 ⟨@aseqi (r23 s1 fr H) ⟨fun fr H =>
 some (.ret, fr, H)⟩⟩
 ⟨@aseqi (r24 fr H) ⟨fun fr H =>
 @acondi (fr 75)
 ⟨@aseqi (r25 s1 fr H) ⟨fun fr H =>
 some (.ret, fr, H)⟩⟩
 ⟨@aseqi (r26 fr H) ⟨fun fr H =>
 @acondi (fr 86)
 ⟨@aseqi (r27 s1 fr H) ⟨fun fr H =>
 some (.ret, fr, H)⟩⟩
 ⟨@aseqi (r28 fr H) ⟨fun fr H =>
 @acondi (fr 94)
 ⟨@aseqi (r29 s1 fr H) ⟨fun fr H =>
 some (.ret, fr, H)⟩⟩
 ⟨@aseqi (r30 fr H) ⟨fun fr H =>
 @acondi (fr 103)
 ⟨@aseqi (r31 s1 fr H) ⟨fun fr H =>
 some (.ret, fr, H)⟩⟩
 ⟨some (.normal, fr, H)⟩⟩⟩⟩⟩⟩⟩⟩⟩⟩⟩⟩⟩⟩⟩⟩⟩⟩⟩⟩⟩⟩⟩⟩⟩⟩)⟩) ⟨fun fr H =>
 @aseqi (r32 s2 fr H) ⟨fun fr H =>
 some (.ret, fr, H)⟩⟩⟩⟩
@[simp] def res (fr : AFr) (H : AHeap) : Option (List AV) := res2 (aloadR (some (some 13)) (fr 8) H) (res2 (some (fr 9)) (some []))
end core_alu
def core_alu (a0 a1 a2 a3 : AV) : Option AV := closeUpR (some [[none, none, none, none, none, none, none, none, none, none, none, none, none], [none]]) (afinR core_alu.res (core_alu.body core_shift.spec core_add.spec core_flags.spec (args0 [a0, a1, a2, a3]) AHeap.empty))
def core_alu.spec : List AV → Option AV
  | [a0, a1, a2, a3] => core_alu a0 a1 a2 a3
  | _ => none
namespace core_reckons
def C (s0 s1 s2 s3 : SpecP) : Tab := ((((Tab.none.add 80 (.pure false s0)).add 81 (.pure false s1)).add 82 (.pure false s2)).add 83 (.pure false s3))
@[simp] def r0 (fr : AFr) (H : AHeap) : ARes :=
 areg (@opi _ (abox T.ty_api_State (fr 0) H) ⟨fun v2 H =>
 @opi _ (abox T.ty_api_Ins (fr 1) H) ⟨fun v3 H =>
 @opi _ (aallocR T.ty_api_State (some (.agg [(W32 0#32), (W32 0#32), (W32 0#32), (W32 0#32), (W32 0#32), (W32 0#32), (W32 0#32), (W32 0#32), (W32 0#32), (.bool false), (.bool false), (.bool false), (.bool false)])) H) ⟨fun v4 H =>
 some (AFr.al [(2, v2), (3, v3), (4, v4)], H)⟩⟩⟩)
@[simp] def r1 (fr : AFr) (H : AHeap) : ARes :=
 areg (@opi _ (lift (afieldAddrR (some 4) (fr 3)) H) ⟨fun v10 H =>
 @opi _ (lift (aloadR (some none) v10 H) H) ⟨fun v11 H =>
 @opi _ (lift (aconvR (some .u32) v11) H) ⟨fun v12 H =>
 some (AFr.al [(2, fr 2), (3, fr 3), (4, fr 4), (6, v12)], H)⟩⟩⟩)
@[simp] def r2 (fr : AFr) (H : AHeap) : ARes :=
 areg (@opi _ (lift (afieldAddrR (some 1) (fr 3)) H) ⟨fun v13 H1 =>
 @opi _ (lift (aloadR (some none) v13 H1) H1) ⟨fun v14 H2 =>
 @opi _ (lift (afieldAddrR (some 0) (fr 2)) H2) ⟨fun v15 H3 =>
 @opi _ (lift (aindexAddrR (.arr 8 1) v15 v14) H3) ⟨fun v16 H4 =>
 @opi _ (lift (aloadR (some none) v16 H4) H4) ⟨fun v17 H5 =>
 @opi _ (lift (afieldAddrR (some 2) (fr 3)) H5) ⟨fun v18 H6 =>
 @opi _ (lift (aloadR (some none) v18 H6) H6) ⟨fun v19 H7 =>
 @opi _ (lift (afieldAddrR (some 0) (fr 2)) H7) ⟨fun v20 H8 =>
 @opi _ (lift (aindexAddrR (.arr 8 1) v20 v19) H8) ⟨fun v21 H9 =>
 @opi _ (lift (aloadR (some none) v21 H9) H9) ⟨fun v22 H10 =>
 @opi _ (lift (afieldAddrR (some 3) (fr 3)) H10) ⟨fun v23 H11 =>
 @opi _ (lift (aloadR (some none) v23 H11) H11) ⟨fun v24 H12 =>
 @opi _ (lift (afieldAddrR (some 0) (fr 2)) H12) ⟨fun v25 H13 =>
 @opi _ (lift (aindexAddrR (.arr 8 1) v25 v24) H13) ⟨fun v26 H14 =>
 @opi _ (lift (aloadR (some none) v26 H14) H14) ⟨fun v27 H15 =>
 @opi _ (lift (some v17) H15) ⟨fun v7 H16 =>
 @opi _ (lift (some v22) H16) ⟨fun v8 H17 =>
 @opi _ (lift (some v27) H17) ⟨fun v9 H18 =>
 some (AFr.al [(2, fr 2), (3, fr 3), (4, fr 4), (6, fr 6), (7, v7), (8, v8), (9, v9)], H18)⟩⟩⟩⟩⟩⟩⟩⟩⟩⟩⟩⟩⟩⟩⟩⟩⟩⟩)
@[simp] def r3 (fr : AFr) (H : AHeap) : ARes :=
 areg (@opi _ (lift (afieldAddrR (some 0) (fr 3)) H) ⟨fun v28 H =>
 @opi _ (lift (aloadR (some none) v28 H) H) ⟨fun v29 H =>
 some (AFr.al [(2, fr 2), (3, fr 3), (4, fr 4), (6, fr 6), (7, fr 7), (8, fr 8), (9, fr 9), (29, v29)], H)⟩⟩)
@[simp] def r4 (fr : AFr) (H : AHeap) : ARes :=
 areg (@opi _ (lift (abinR .x .eql (fr 29) (.int .i64 0)) H) ⟨fun v31 H =>
 some (AFr.al [(2, fr 2), (3, fr 3), (4, fr 4), (6, fr 6), (7, fr 7), (8, fr 8), (9, fr 9), (29, fr 29), (30, v31)], H)⟩)
@[simp] def r5 (s0 : SpecP) (fr : AFr) (H : AHeap) : ARes :=
 areg (@opi _ (lift (aloadR (some (some 13)) (fr 2) H) H) ⟨fun v32 H =>
 @opi _ (callP false s0 [[none, none, none, none, none, none, none, none, none, none, none, none, none], [none]] [v32, (fr 6)] H) ⟨fun v34 H =>
 @opi _ (liftS (astoreR (some 13) (fr 4) v34 H)) ⟨fun _ H =>
 some (AFr.al [(4, fr 4), (5, (fr 6))], H)⟩⟩⟩)
@[simp] def r6 (fr : AFr) (H : AHeap) : ARes :=
 areg (@opi _ (lift (abinR .x .eql (fr 29) (.int .i64 1)) H) ⟨fun v37 H =>
 some (AFr.al [(2, fr 2), (3, fr 3), (4, fr 4), (6, fr 6), (7, fr 7), (8, fr 8), (9, fr 9), (29, fr 29), (36, v37)], H)⟩)
@[simp] def r7 (fr : AFr) (H : AHeap) : ARes :=
 areg (@opi _ (lift (abinR .x .eql (fr 29) (.int .i64 3)) H) ⟨fun v38 H =>
 some (AFr.al [(2, fr 2), (3, fr 3), (4, fr 4), (6, fr 6), (7, fr 7), (8, fr 8), (9, fr 9), (29, fr 29), (36, v38)], H)⟩)
@[simp] def r8 (s1 : SpecP) (fr : AFr) (H : AHeap) : ARes :=
 areg (@opi _ (lift (aloadR (some (some 13)) (fr 2) H) H) ⟨fun v39 H =>
 @opi _ (lift (aun .xor (fr 6)) H) ⟨fun v42 H =>
 @opi _ (callP false s1 [[none, none, none, none, none, none, none, none, none, none, none, none, none], [none], [none], [none]] [v39, (fr 7), v42, (.bool true)] H) ⟨fun v43 H =>
 @opi _ (lift (aextract v43 0) H) ⟨fun v44 H =>
 @opi _ (lift (aextract v43 1) H) ⟨fun v45 H =>
 @opi _ (liftS (astoreR (some 13) (fr 4) v44 H)) ⟨fun _ H =>
 some (AFr.al [(4, fr 4), (5, v45)], H)⟩⟩⟩⟩⟩⟩)
@[simp] def r9 (fr : AFr) (H : AHeap) : ARes :=
 areg (@opi _ (lift (abinR .x .eql (fr 29) (.int .i64 2)) H) ⟨fun v47 H =>
 some (AFr.al [(2, fr 2), (3, fr 3), (4, fr 4), (6, fr 6), (7, fr 7), (8, fr 8), (9, fr 9), (29, fr 29), (46, v47)], H)⟩)
@[simp] def r10 (s1 : SpecP) (fr : AFr) (H : AHeap) : ARes :=
 areg (@opi _ (lift (aloadR (some (some 13)) (fr 2) H) H) ⟨fun v48 H =>
 @opi _ (callP false s1 [[none, none, none, none, none, none, none, none, none, none, none, none, none], [none], [none], [none]] [v48, (fr 7), (fr 6), (.bool false)] H) ⟨fun v51 H =>
 @opi _ (lift (aextract v51 0) H) ⟨fun v52 H =>
 @opi _ (lift (aextract v51 1) H) ⟨fun v53 H =>
 @opi _ (liftS (astoreR (some 13) (fr 4) v52 H)) ⟨fun _ H =>
 some (AFr.al [(4, fr 4), (5, v53)], H)⟩⟩⟩⟩⟩)
@[simp] def r11 (fr : AFr) (H : AHeap) : ARes :=
 areg (@opi _ (lift (abinR .x .eql (fr 29) (.int .i64 4)) H) ⟨fun v55 H =>
 some (AFr.al [(2, fr 2), (3, fr 3), (4, fr 4), (6, fr 6), (7, fr 7), (8, fr 8), (9, fr 9), (29, fr 29), (54, v55)], H)⟩)
@[simp] def r12 (fr : AFr) (H : AHeap) : ARes :=
 areg (@opi _ (lift (abinR .x .eql (fr 29) (.int .i64 5)) H) ⟨fun v56 H =>
 some (AFr.al [(2, fr 2), (3, fr 3), (4, fr 4), (6, fr 6), (7, fr 7), (8, fr 8), (9, fr 9), (29, fr 29), (54, v56)], H)⟩)
@[simp] def r13 (fr : AFr) (H : AHeap) : ARes :=
 areg (@opi _ (lift (abinR .x .eql (fr 29) (.int .i64 6)) H) ⟨fun v57 H =>
 some (AFr.al [(2, fr 2), (3, fr 3), (4, fr 4), (6, fr 6), (7, fr 7), (8, fr 8), (9, fr 9), (29, fr 29), (54, v57)], H)⟩)
@[simp] def r14 (s2 : SpecP) (fr : AFr) (H : AHeap) : ARes :=
 areg (@opi _ (lift (aloadR (some (some 13)) (fr 2) H) H) ⟨fun v58 H =>
 @opi _ (lift (afieldAddrR (some 0) (fr 3)) H) ⟨fun v59 H =>
 @opi _ (lift (aloadR (some none) v59 H) H) ⟨fun v60 H =>
 @opi _ (lift (abinR .x .sub v60 (.int .i64 4)) H) ⟨fun v61 H =>
 @opi _ (lift (abinR .x .add v61 (.int .i64 0)) H) ⟨fun v62 H =>
 @opi _ (callP false s2 [[none, none, none, none, none, none, none, none, none, none, none, none, none], [none], [none], [none]] [v58, v62, (fr 9), (fr 6)] H) ⟨fun v65 H =>
 @opi _ (lift (aextract v65 0) H) ⟨fun v66 H =>
 @opi _ (lift (aextract v65 1) H) ⟨fun v67 H =>
 @opi _ (liftS (astoreR (some 13) (fr 4) v66 H)) ⟨fun _ H =>
 some (AFr.al [(4, fr 4), (5, v67)], H)⟩⟩⟩⟩⟩⟩⟩⟩⟩)
@[simp] def r15 (fr : AFr) (H : AHeap) : ARes :=
 areg (@opi _ (lift (abinR .x .eql (fr 29) (.int .i64 7)) H) ⟨fun v69 H =>
 some (AFr.al [(2, fr 2), (3, fr 3), (4, fr 4), (6, fr 6), (7, fr 7), (8, fr 8), (9, fr 9), (29, fr 29), (68, v69)], H)⟩)
@[simp] def r16 (s1 : SpecP) (fr : AFr) (H : AHeap) : ARes :=
 areg (@opi _ (lift (aloadR (some (some 13)) (fr 2) H) H) ⟨fun v70 H =>
 @opi _ (callP false s1 [[none, none, none, none, none, none, none, none, none, none, none, none, none], [none], [none], [none]] [v70, (fr 8), (fr 9), (.bool false)] H) ⟨fun v73 H =>
 @opi _ (lift (aextract v73 0) H) ⟨fun v74 H =>
 @opi _ (lift (aextract v73 1) H) ⟨fun v75 H =>
 @opi _ (liftS (astoreR (some 13) (fr 4) v74 H)) ⟨fun _ H =>
 some (AFr.al [(4, fr 4), (5, v75)], H)⟩⟩⟩⟩⟩)
@[simp] def r17 (fr : AFr) (H : AHeap) : ARes :=
 areg (@opi _ (lift (abinR .x .eql (fr 29) (.int .i64 8)) H) ⟨fun v77 H =>
 some (AFr.al [(2, fr 2), (3, fr 3), (4, fr 4), (6, fr 6), (7, fr 7), (8, fr 8), (9, fr 9), (29, fr 29), (76, v77)], H)⟩)
@[simp] def r18 (s1 : SpecP) (fr : AFr) (H : AHeap) : ARes :=
 areg (@opi _ (lift (aloadR (some (some 13)) (fr 2) H) H) ⟨fun v78 H =>
 @opi _ (lift (aun .xor (fr 9)) H) ⟨fun v81 H =>
 @opi _ (callP false s1 [[none, none, none, none, none, none, none, none, none, none, none, none, none], [none], [none], [none]] [v78, (fr 8), v81, (.bool true)] H) ⟨fun v82 H =>
 @opi _ (lift (aextract v82 0) H) ⟨fun v83 H =>
 @opi _ (lift (aextract v82 1) H) ⟨fun v84 H =>
 @opi _ (liftS (astoreR (some 13) (fr 4) v83 H)) ⟨fun _ H =>
 some (AFr.al [(4, fr 4), (5, v84)], H)⟩⟩⟩⟩⟩⟩)
@[simp] def r19 (fr : AFr) (H : AHeap) : ARes :=
 areg (@opi _ (lift (abinR .x .eql (fr 29) (.int .i64 9)) H) ⟨fun v86 H =>
 some (AFr.al [(2, fr 2), (3, fr 3), (4, fr 4), (6, fr 6), (7, fr 7), (8, fr 8), (9, fr 9), (29, fr 29), (85, v86)], H)⟩)
@[simp] def r20 (s1 : SpecP) (fr : AFr) (H : AHeap) : ARes :=
 areg (@opi _ (lift (aloadR (some (some 13)) (fr 2) H) H) ⟨fun v87 H =>
 @opi _ (callP false s1 [[none, none, none, none, none, none, none, none, none, none, none, none, none], [none], [none], [none]] [v87, (fr 8), (fr 6), (.bool false)] H) ⟨fun v90 H =>
 @opi _ (lift (aextract v90 0) H) ⟨fun v91 H =>
 @opi _ (lift (aextract v90 1) H) ⟨fun v92 H =>
 @opi _ (liftS (astoreR (some 13) (fr 4) v91 H)) ⟨fun _ H =>
 some (AFr.al [(4, fr 4), (5, v92)], H)⟩⟩⟩⟩⟩)
@[simp] def r21 (fr : AFr) (H : AHeap) : ARes :=
 areg (@opi _ (lift (abinR .x .eql (fr 29) (.int .i64 10)) H) ⟨fun v94 H =>
 some (AFr.al [(2, fr 2), (3, fr 3), (4, fr 4), (6, fr 6), (7, fr 7), (8, fr 8), (9, fr 9), (93, v94)], H)⟩)
@[simp] def r22 (s1 : SpecP) (fr : AFr) (H : AHeap) : ARes :=
 areg (@opi _ (lift (aloadR (some (some 13)) (fr 2) H) H) ⟨fun v95 H =>
 @opi _ (lift (aun .xor (fr 6)) H) ⟨fun v98 H =>
 @opi _ (callP false s1 [[none, none, none, none, none, none, none, none, none, none, none, none, none], [none], [none], [none]] [v95, (fr 8), v98, (.bool true)] H) ⟨fun v99 H =>
 @opi _ (lift (aextract v99 0) H) ⟨fun v100 H =>
 @opi _ (lift (aextract v99 1) H) ⟨fun v101 H =>
 @opi _ (liftS (astoreR (some 13) (fr 4) v100 H)) ⟨fun _ H =>
 some (AFr.al [(4, fr 4), (5, v101)], H)⟩⟩⟩⟩⟩⟩)
@[simp] def r23 (s3 : SpecP) (fr : AFr) (H : AHeap) : ARes :=
 areg (@opi _ (lift (aloadR (some (some 13)) (fr 2) H) H) ⟨fun v102 H =>
 @opi _ (lift (afieldAddrR (some 4) (fr 3)) H) ⟨fun v103 H =>
 @opi _ (lift (aloadR (some none) v103 H) H) ⟨fun v104 H =>
 @opi _ (callP false s3 [[none, none, none, none, none, none, none, none, none, none, none, none, none], [none], [none], [none]] [v102, v104, (fr 7), (fr 9)] H) ⟨fun v107 H =>
 @opi _ (lift (aextract v107 0) H) ⟨fun v108 H =>
 @opi _ (lift (aextract v107 1) H) ⟨fun v109 H =>
 @opi _ (liftS (astoreR (some 13) (fr 4) v108 H)) ⟨fun _ H =>
 some (AFr.al [(4, fr 4), (5, v109)], H)⟩⟩⟩⟩⟩⟩⟩)
@[simp] def body (s0 s1 s2 s3 : SpecP) (fr : AFr) (H : AHeap) : ARes :=
  @aseqi (r0 fr H) ⟨fun fr H =>
 @aseqi (r1 fr H) ⟨fun fr H =>
 @aseqi (r2 fr H) ⟨fun fr H =>
 @aseqi (@aseqi (r3 fr H) ⟨fun fr H =>
  aexit 0 (@aseqi (r4 fr H) ⟨fun fr H =>
 @acondi (fr 30)
 ⟨@aseqi (r5 s0 fr H) ⟨fun fr H =>
 some (.ret, fr, H)⟩⟩
 ⟨@aseqi (@aseqi (r6 fr H) ⟨fun fr H =>
 @acondi (fr 36)
 ⟨some (.normal, fr, H)⟩
 ⟨r7 fr H⟩⟩) ⟨fun fr H =>
 @acondi (fr 36)
 ⟨@aseqi (r8 s1 fr H) ⟨fun fr H =>
 some (.ret, fr, H)⟩⟩
 ⟨@aseqi (r9 fr H) ⟨fun fr H =>
 @acondi (fr 46)
 ⟨@aseqi (r10 s1 fr H) ⟨fun fr H =>
 some (.ret, fr, H)⟩⟩
 ⟨@aseqi (@aseqi (r11 fr H) ⟨fun fr H =>
 @acondi (fr 54)
 ⟨some (.normal, fr, H)⟩
 ⟨@aseqi (r12 fr H) ⟨fun fr H =>
 @acondi (fr 54)
 ⟨some (.normal, fr, H)⟩
 ⟨r13 fr H⟩⟩⟩⟩) ⟨fun fr H =>
 @acondi (fr 54)
 ⟨@aseqi (r14 s2 fr H) ⟨fun fr H =>
 some (.ret, fr, H)⟩⟩
 ⟨@aseqi (r15 fr H) ⟨fun fr H =>
 @acondi (fr 68)
 ⟨@aseqi (r16 s1 fr H) ⟨fun fr H =>
 some (.ret, fr, H)⟩⟩
 ⟨@aseqi (r17 fr H) ⟨fun fr H =>
 @acondi (fr 76)
 ⟨@aseqi (r18 s1 fr H) ⟨fun fr H =>
 some (.ret, fr, H)⟩⟩
 ⟨@aseqi (r19 fr H) ⟨fun fr H =>
 @acondi (fr 85)
 ⟨@aseqi (r20 s1 fr H) ⟨fun fr H =>
 some (.ret, fr, H)⟩⟩
 ⟨@aseqi (r21 fr H) ⟨fun fr H =>
 @acondi (fr 93)
 ⟨@aseqi (r22 s1 fr H) ⟨fun fr H =>
 some (.ret, fr, H)⟩⟩
 ⟨some (.normal, fr, H)⟩⟩⟩⟩⟩⟩⟩⟩⟩⟩⟩⟩⟩⟩⟩⟩)⟩) ⟨fun fr H =>
 @aseqi (r23 s3 fr H) ⟨fun fr H =>
 some (.ret, fr, H)⟩⟩⟩⟩⟩
@[simp] def res (fr : AFr) (H : AHeap) : Option (List AV) := res2 (aloadR (some (some 13)) (fr 4) H) (res2 (some (fr 5)) (some []))
end core_reckons
def core_reckons (a0 a1 : AV) : Option AV := closeUpR (some [[none, none, none, none, none, none, none, none, none, none, none, none, none], [none]]) (afinR core_reckons.res (core_reckons.body core_flags.spec core_add.spec core_shift.spec core_alu.spec (args0 [a0, a1]) AHeap.empty))
def core_reckons.spec : List AV → Option AV
  | [a0, a1] => core_reckons a0 a1
  | _ => none
namespace core_Step
def C (s0 : SpecM) (s1 s2 : SpecP) (s3 : SpecM) (s4 s5 : SpecP) : Tab := ((((((Tab.none.add 50 (.ref [false, false] s0)).add 51 (.pure false s1)).add 52 (.pure false s2)).add 53 (.ref [true, true, false] s3)).add 54 (.pure false s4)).add 55 (.pure false s5))
@[simp] def r0 (fr : AFr) (H : AHeap) : ARes :=
 areg (@opi _ (abox T.ty_api_State (fr 0) H) ⟨fun v2 H =>
 @opi _ (aallocR T.ty_api_State (some (.agg [(W32 0#32), (W32 0#32), (W32 0#32), (W32 0#32), (W32 0#32), (W32 0#32), (W32 0#32), (W32 0#32), (W32 0#32), (.bool false), (.bool false), (.bool false), (.bool false)])) H) ⟨fun v4 H =>
 some (AFr.al [(1, fr 1), (2, v2), (4, v4)], H)⟩⟩)
@[simp] def r1 (fr : AFr) (H : AHeap) : ARes :=
 areg (@opi _ (lift (abinR .p .eql (fr 1) .nilp) H) ⟨fun v16 H =>
 some (AFr.al [(1, fr 1), (2, fr 2), (4, fr 4), (16, v16)], H)⟩)
@[simp] def r2 (fr : AFr) (H : AHeap) : ARes :=
 areg (@opi _ (lift (aloadR (some (some 13)) (fr 2) H) H) ⟨fun v17 H =>
 @opi _ (liftS (astoreR (some 13) (fr 4) v17 H)) ⟨fun _ H =>
 some (AFr.al [(4, fr 4), (5, (.bool false)), (6, (.int .i64 1))], H)⟩⟩)
@[simp] def r3 (s0 : SpecM) (fr : AFr) (H : AHeap) : ARes :=
 areg (@opi _ (lift (afieldAddrR (some 8) (fr 2)) H) ⟨fun v20 H =>
 @opi _ (lift (aloadR (some none) v20 H) H) ⟨fun v21 H =>
 @opi _ (callM [false, false] s0 [[none], [none]] [(fr 1), v21] H) ⟨fun v22 H =>
 @opi _ (lift (aextract v22 0) H) ⟨fun v23 H =>
 @opi _ (lift (aextract v22 1) H) ⟨fun v24 H =>
 some (AFr.al [(1, fr 1), (2, fr 2), (4, fr 4), (7, v23), (8, v24)], H)⟩⟩⟩⟩⟩)
@[simp] def r4 (fr : AFr) (H : AHeap) : ARes :=
 areg (@opi _ (lift (abinR .x .neq (fr 8) (.int .i64 0)) H) ⟨fun v26 H =>
 some (AFr.al [(1, fr 1), (2, fr 2), (4, fr 4), (7, fr 7), (8, fr 8), (26, v26)], H)⟩)
@[simp] def r5 (fr : AFr) (H : AHeap) : ARes :=
 areg (@opi _ (lift (aloadR (some (some 13)) (fr 2) H) H) ⟨fun v27 H =>
 @opi _ (liftS (astoreR (some 13) (fr 4) v27 H)) ⟨fun _ H =>
 some (AFr.al [(4, fr 4), (5, (.bool false)), (6, (fr 8))], H)⟩⟩)
@[simp] def r6 (s1 : SpecP) (fr : AFr) (H : AHeap) : ARes :=
 areg (@opi _ (callP false s1 [[none]] [(fr 7)] H) ⟨fun v31 H =>
 @opi _ (lift (aextract v31 0) H) ⟨fun v32 H =>
 @opi _ (lift (aextract v31 1) H) ⟨fun v33 H =>
 @opi _ (aallocR T.ty_api_Ins (some (.agg [(.int .i64 0), (.int .i64 0), (.int .i64 0), (.int .i64 0), (.int .i64 0)])) H) ⟨fun v9 H =>
 @opi _ (liftS (astoreR (some 5) v9 v32 H)) ⟨fun _ H =>
 some (AFr.al [(1, fr 1), (2, fr 2), (4, fr 4), (8, v33), (9, v9)], H)⟩⟩⟩⟩⟩)
@[simp] def r7 (fr : AFr) (H : AHeap) : ARes :=
 areg (@opi _ (lift (abinR .x .neq (fr 8) (.int .i64 0)) H) ⟨fun v35 H =>
 some (AFr.al [(1, fr 1), (2, fr 2), (4, fr 4), (8, fr 8), (9, fr 9), (35, v35)], H)⟩)
@[simp] def r8 (fr : AFr) (H : AHeap) : ARes :=
 areg (@opi _ (lift (aloadR (some (some 13)) (fr 2) H) H) ⟨fun v36 H =>
 @opi _ (liftS (astoreR (some 13) (fr 4) v36 H)) ⟨fun _ H =>
 some (AFr.al [(4, fr 4), (5, (.bool false)), (6, (fr 8))], H)⟩⟩)
@[simp] def r9 (fr : AFr) (H : AHeap) : ARes :=
 areg (@opi _ (lift (aloadR (some (some 13)) (fr 2) H) H) ⟨fun v38 H =>
 @opi _ (aallocR T.ty_api_State (some (.agg [(W32 0#32), (W32 0#32), (W32 0#32), (W32 0#32), (W32 0#32), (W32 0#32), (W32 0#32), (W32 0#32), (W32 0#32), (.bool false), (.bool false), (.bool false), (.bool false)])) H) ⟨fun v10 H =>
 @opi _ (liftS (astoreR (some 13) v10 v38 H)) ⟨fun _ H =>
 some (AFr.al [(1, fr 1), (2, fr 2), (4, fr 4), (9, fr 9), (10, v10)], H)⟩⟩⟩)
@[simp] def r10 (fr : AFr) (H : AHeap) : ARes :=
 areg (@opi _ (lift (afieldAddrR (some 8) (fr 2)) H) ⟨fun v39 H =>
 @opi _ (lift (aloadR (some none) v39 H) H) ⟨fun v40 H =>
 @opi _ (lift (abinR .x .add v40 (W32 2#32)) H) ⟨fun v41 H =>
 some (AFr.al [(1, fr 1), (2, fr 2), (4, fr 4), (9, fr 9), (10, fr 10), (11, v41)], H)⟩⟩⟩)
@[simp] def r11 (fr : AFr) (H : AHeap) : ARes :=
 areg (@opi _ (lift (afieldAddrR (some 0) (fr 9)) H) ⟨fun v42 H =>
 @opi _ (lift (aloadR (some none) v42 H) H) ⟨fun v43 H =>
 some (AFr.al [(1, fr 1), (2, fr 2), (4, fr 4), (9, fr 9), (10, fr 10), (11, fr 11), (43, v43)], H)⟩⟩)
@[simp] def r17 (fr : AFr) (H : AHeap) : ARes :=
 areg (@opi _ (lift (abinR .x .eql (fr 43) (.int .i64 20)) H) ⟨fun v61 H =>
 some (AFr.al [(1, fr 1), (2, fr 2), (4, fr 4), (9, fr 9), (10, fr 10), (11, fr 11), (43, fr 43), (60, v61)], H)⟩)
@[simp] def r18 (fr : AFr) (H : AHeap) : ARes :=
 areg (@opi _ (lift (aloadR (some (some 13)) (fr 2) H) H) ⟨fun v62 H =>
 @opi _ (liftS (astoreR (some 13) (fr 4) v62 H)) ⟨fun _ H =>
 some (AFr.al [(4, fr 4), (5, (.bool true)), (6, (.int .i64 0))], H)⟩⟩)
@[simp] def r19 (fr : AFr) (H : AHeap) : ARes :=
 areg (@opi _ (lift (abinR .x .eql (fr 43) (.int .i64 19)) H) ⟨fun v64 H =>
 some (AFr.al [(1, fr 1), (2, fr 2), (4, fr 4), (9, fr 9), (10, fr 10), (11, fr 11), (43, fr 43), (63, v64)], H)⟩)
@[simp] def r20 (fr : AFr) (H : AHeap) : ARes :=
 areg (@opi _ (lift (abinR .x .eql (fr 43) (.int .i64 18)) H) ⟨fun v66 H =>
 some (AFr.al [(1, fr 1), (2, fr 2), (4, fr 4), (9, fr 9), (10, fr 10), (11, fr 11), (43, fr 43), (65, v66)], H)⟩)
@[simp] def r21 (s2 : SpecP) (fr : AFr) (H : AHeap) : ARes :=
 areg (@opi _ (lift (afieldAddrR (some 1) (fr 9)) H) ⟨fun v67 H =>
 @opi _ (lift (aloadR (some none) v67 H) H) ⟨fun v68 H =>
 @opi _ (lift (aloadR (some (some 13)) (fr 2) H) H) ⟨fun v69 H =>
 @opi _ (callP false s2 [[none], [none, none, none, none, none, none, none, none, none, none, none, none, none]] [v68, v69] H) ⟨fun v70 H =>
 some (AFr.al [(2, fr 2), (4, fr 4), (9, fr 9), (10, fr 10), (11, fr 11), (70, v70)], H)⟩⟩⟩⟩)
@[simp] def r22 (fr : AFr) (H : AHeap) : ARes :=
 areg (@opi _ (lift (afieldAddrR (some 8) (fr 2)) H) ⟨fun v71 H =>
 @opi _ (lift (aloadR (some none) v71 H) H) ⟨fun v72 H =>
 @opi _ (lift (abinR .x .add v72 (W32 4#32)) H) ⟨fun v73 H =>
 @opi _ (lift (afieldAddrR (some 4) (fr 9)) H) ⟨fun v74 H =>
 @opi _ (lift (aloadR (some none) v74 H) H) ⟨fun v75 H =>
 @opi _ (lift (aconvR (some .u32) v75) H) ⟨fun v76 H =>
 @opi _ (lift (abinR .x .mul (W32 2#32) v76) H) ⟨fun v77 H =>
 @opi _ (lift (abinR .x .add v73 v77) H) ⟨fun v78 H =>
 some (AFr.al [(4, fr 4), (10, fr 10), (11, v78)], H)⟩⟩⟩⟩⟩⟩⟩⟩)
@[simp] def r23 (fr : AFr) (H : AHeap) : ARes :=
 areg (@opi _ (lift (abinR .x .eql (fr 43) (.int .i64 17)) H) ⟨fun v80 H =>
 some (AFr.al [(1, fr 1), (2, fr 2), (4, fr 4), (9, fr 9), (10, fr 10), (11, fr 11), (43, fr 43), (79, v80)], H)⟩)
@[simp] def r24 (fr : AFr) (H : AHeap) : ARes :=
 areg (@opi _ (lift (afieldAddrR (some 8) (fr 2)) H) ⟨fun v81 H =>
 @opi _ (lift (aloadR (some none) v81 H) H) ⟨fun v82 H =>
 @opi _ (lift (abinR .x .add v82 (W32 4#32)) H) ⟨fun v83 H =>
 @opi _ (lift (afieldAddrR (some 4) (fr 9)) H) ⟨fun v84 H =>
 @opi _ (lift (aloadR (some none) v84 H) H) ⟨fun v85 H =>
 @opi _ (lift (aconvR (some .u32) v85) H) ⟨fun v86 H =>
 @opi _ (lift (abinR .x .mul (W32 2#32) v86) H) ⟨fun v87 H =>
 @opi _ (lift (abinR .x .add v83 v87) H) ⟨fun v88 H =>
 some (AFr.al [(4, fr 4), (10, fr 10), (11, v88)], H)⟩⟩⟩⟩⟩⟩⟩⟩)
@[simp] def r25 (fr : AFr) (H : AHeap) : ARes :=
 areg (@opi _ (lift (abinR .x .eql (fr 43) (.int .i64 12)) H) ⟨fun v90 H =>
 some (AFr.al [(1, fr 1), (2, fr 2), (4, fr 4), (9, fr 9), (10, fr 10), (11, fr 11), (43, fr 43), (89, v90)], H)⟩)
@[simp] def r26 (fr : AFr) (H : AHeap) : ARes :=
 areg (@opi _ (lift (abinR .x .eql (fr 43) (.int .i64 13)) H) ⟨fun v91 H =>
 some (AFr.al [(1, fr 1), (2, fr 2), (4, fr 4), (9, fr 9), (10, fr 10), (11, fr 11), (43, fr 43), (89, v91)], H)⟩)
@[simp] def r27 (fr : AFr) (H : AHeap) : ARes :=
 areg (@opi _ (lift (abinR .x .eql (fr 43) (.int .i64 14)) H) ⟨fun v92 H =>
 some (AFr.al [(1, fr 1), (2, fr 2), (4, fr 4), (9, fr 9), (10, fr 10), (11, fr 11), (43, fr 43), (89, v92)], H)⟩)
@[simp] def r28 (fr : AFr) (H : AHeap) : ARes :=
 areg (@opi _ (lift (abinR .x .eql (fr 43) (.int .i64 15)) H) ⟨fun v93 H =>
 some (AFr.al [(1, fr 1), (2, fr 2), (4, fr 4), (9, fr 9), (10, fr 10), (11, fr 11), (43, fr 43), (89, v93)], H)⟩)
@[simp] def r29 (fr : AFr) (H : AHeap) : ARes :=
 areg (@opi _ (lift (abinR .x .eql (fr 43) (.int .i64 16)) H) ⟨fun v94 H =>
 some (AFr.al [(1, fr 1), (2, fr 2), (4, fr 4), (9, fr 9), (10, fr 10), (11, fr 11), (89, v94)], H)⟩)
@[simp] def r30 (s3 : SpecM) (fr : AFr) (H : AHeap) : ARes :=
 areg (@opi _ (lift (aloadR (some (some 13)) (fr 2) H) H) ⟨fun v96 H =>
 @opi _ (lift (aloadR (some (some 5)) (fr 9) H) H) ⟨fun v97 H =>
 @opi _ (callM [true, true, false] s3 [[none, none, none, none, none, none, none, none, none, none, none, none, none], [none, none, none, none, none], [none]] [v96, v97, (fr 1)] H) ⟨fun v99 H =>
 @opi _ (lift (aextract v99 0) H) ⟨fun v100 H =>
 @opi _ (lift (aextract v99 1) H) ⟨fun v101 H =>
 @opi _ (liftS (astoreR (some 13) (fr 10) v100 H)) ⟨fun _ H =>
 some (AFr.al [(2, fr 2), (4, fr 4), (8, v101), (10, fr 10), (11, fr 11)], H)⟩⟩⟩⟩⟩⟩)
@[simp] def r31 (fr : AFr) (H : AHeap) : ARes :=
 areg (@opi _ (lift (abinR .x .neq (fr 8) (.int .i64 0)) H) ⟨fun v103 H =>
 some (AFr.al [(2, fr 2), (4, fr 4), (8, fr 8), (10, fr 10), (11, fr 11), (103, v103)], H)⟩)
@[simp] def r32 (fr : AFr) (H : AHeap) : ARes :=
 areg (@opi _ (lift (aloadR (some (some 13)) (fr 2) H) H) ⟨fun v104 H =>
 @opi _ (liftS (astoreR (some 13) (fr 4) v104 H)) ⟨fun _ H =>
 some (AFr.al [(4, fr 4), (5, (.bool false)), (6, (fr 8))], H)⟩⟩)
@[simp] def r12 (fr : AFr) (H : AHeap) : ARes :=
 areg (some (AFr.al [(2, fr 2), (4, fr 4), (9, fr 9), (10, fr 10), (11, fr 11)], H))
@[simp] def r13 (s4 : SpecP) (fr : AFr) (H : AHeap) : ARes :=
 areg (@opi _ (lift (aloadR (some (some 13)) (fr 2) H) H) ⟨fun v45 H =>
 @opi _ (lift (aloadR (some (some 5)) (fr 9) H) H) ⟨fun v46 H =>
 @opi _ (callP false s4 [[none, none, none, none, none, none, none, none, none, none, none, none, none], [none, none, none, none, none]] [v45, v46] H) ⟨fun v47 H =>
 @opi _ (lift (aextract v47 0) H) ⟨fun v48 H =>
 @opi _ (lift (aextract v47 1) H) ⟨fun v49 H =>
 @opi _ (liftS (astoreR (some 13) (fr 10) v48 H)) ⟨fun _ H =>
 some (AFr.al [(4, fr 4), (9, fr 9), (10, fr 10), (11, fr 11), (12, v49)], H)⟩⟩⟩⟩⟩⟩)
@[simp] def r14 (s5 : SpecP) (fr : AFr) (H : AHeap) : ARes :=
 areg (@opi _ (lift (aloadR (some (some 5)) (fr 9) H) H) ⟨fun v51 H =>
 @opi _ (callP false s5 [[none, none, none, none, none]] [v51] H) ⟨fun v52 H =>
 @opi _ (lift (aextract v52 0) H) ⟨fun v53 H =>
 @opi _ (lift (aextract v52 1) H) ⟨fun v54 H =>
 some (AFr.al [(4, fr 4), (10, fr 10), (11, fr 11), (12, fr 12), (13, v53), (14, v54)], H)⟩⟩⟩⟩)
@[simp] def r15 (fr : AFr) (H : AHeap) : ARes :=
 areg (some (AFr.al [(4, fr 4), (10, fr 10), (11, fr 11), (12, fr 12), (13, fr 13), (55, (fr 14))], H))
@[simp] def r16 (fr : AFr) (H : AHeap) : ARes :=
 areg (@opi _ (lift (afieldAddrR (some 0) (fr 10)) H) ⟨fun v58 H =>
 @opi _ (lift (aindexAddrR (.arr 8 1) v58 (fr 13)) H) ⟨fun v59 H =>
 @opi _ (liftS (astoreR (some 1) v59 (fr 12) H)) ⟨fun _ H =>
 some (AFr.al [(4, fr 4), (10, fr 10), (11, fr 11)], H)⟩⟩⟩)
@[simp] def r33 (fr : AFr) (H : AHeap) : ARes :=
 areg (@opi _ (lift (afieldAddrR (some 8) (fr 10)) H) ⟨fun v107 H =>
 @opi _ (liftS (astoreR (some 1) v107 (fr 11) H)) ⟨fun _ H =>
 some (AFr.al [(4, fr 4), (10, fr 10)], H)⟩⟩)
@[simp] def r34 (fr : AFr) (H : AHeap) : ARes :=
 areg (@opi _ (lift (aloadR (some (some 13)) (fr 10) H) H) ⟨fun v108 H =>
 @opi _ (liftS (astoreR (some 13) (fr 4) v108 H)) ⟨fun _ H =>
 some (AFr.al [(4, fr 4), (5, (.bool false)), (6, (.int .i64 0))], H)⟩⟩)
@[simp] def body (s0 : SpecM) (s1 s2 : SpecP) (s3 : SpecM) (s4 s5 : SpecP) (fr : AFr) (H : AHeap) : ARes :=
  @aseqi (r0 fr H) ⟨fun fr H =>
 @aseqi (@aseqi (r1 fr H) ⟨fun fr H =>
 @acondi (fr 16)
 ⟨@aseqi (r2 fr H) ⟨fun fr H =>
 some (.ret, fr, H)⟩⟩
 ⟨some (.normal, fr, H)⟩⟩) ⟨fun fr H =>
 @aseqi (r3 s0 fr H) ⟨fun fr H =>
 @aseqi (@aseqi (r4 fr H) ⟨fun fr H =>
 @acondi (fr 26)
 ⟨@aseqi (r5 fr H) ⟨fun fr H =>
 some (.ret, fr, H)⟩⟩
 ⟨some (.normal, fr, H)⟩⟩) ⟨fun fr H =>
 @aseqi (r6 s1 fr H) ⟨fun fr H =>
 @aseqi (@aseqi (r7 fr H) ⟨fun fr H =>
 @acondi (fr 35)
 ⟨@aseqi (r8 fr H) ⟨fun fr H =>
 some (.ret, fr, H)⟩⟩
 ⟨some (.normal, fr, H)⟩⟩) ⟨fun fr H =>
 @aseqi (r9 fr H) ⟨fun fr H =>
 @aseqi (r10 fr H) ⟨fun fr H =>
 @aseqi (@aseqi (r11 fr H) ⟨fun fr H =>
  aexit 0 (@aseqi (r17 fr H) ⟨fun fr H =>
 @acondi (fr 60)
 ⟨@aseqi (r18 fr H) ⟨fun fr H =>
 some (.ret, fr, H)⟩⟩
 ⟨@aseqi (r19 fr H) ⟨fun fr H =>
 @acondi (fr 63)
 ⟨some (.normal, fr, H)⟩
 ⟨@aseqi (r20 fr H) ⟨fun fr H =>
 @acondi (fr 65)
 ⟨@aseqi (r21 s2 fr H) ⟨fun fr H =>
 @acondi (fr 70)
 ⟨r22 fr H⟩
 ⟨some (.normal, fr, H)⟩⟩⟩
 ⟨@aseqi (r23 fr H) ⟨fun fr H =>
 @acondi (fr 79)
 ⟨r24 fr H⟩
 ⟨@aseqi (@aseqi (r25 fr H) ⟨fun fr H =>
 @acondi (fr 89)
 ⟨some (.normal, fr, H)⟩
 ⟨@aseqi (r26 fr H) ⟨fun fr H =>
 @acondi (fr 89)
 ⟨some (.normal, fr, H)⟩
 ⟨@aseqi (r27 fr H) ⟨fun fr H =>
 @acondi (fr 89)
 ⟨some (.normal, fr, H)⟩
 ⟨@aseqi (r28 fr H) ⟨fun fr H =>
 @acondi (fr 89)
 ⟨some (.normal, fr, H)⟩
 ⟨r29 fr H⟩⟩⟩⟩⟩⟩⟩⟩) ⟨fun fr H =>
 @acondi (fr 89)
 ⟨@aseqi (r30 s3 fr H) ⟨fun fr H =>
 @aseqi (r31 fr H) ⟨fun fr H =>
 @acondi (fr 103)
 ⟨@aseqi (r32 fr H) ⟨fun fr H =>
 some (.ret, fr, H)⟩⟩
 ⟨some (.normal, fr, H)⟩⟩⟩⟩
 ⟨@aseqi (r12 fr H) ⟨fun fr H =>
 @aseqi (r13 s4 fr H) ⟨fun fr H =>
 @aseqi (r14 s5 fr H) ⟨fun fr H =>
 @aseqi (r15 fr H) ⟨fun fr H =>
 @acondi (fr 55)
 ⟨r16 fr H⟩
 ⟨some (.normal, fr, H)⟩⟩⟩⟩⟩⟩⟩⟩⟩⟩⟩⟩⟩⟩⟩)⟩) ⟨fun fr H =>
 @aseqi (r33 fr H) ⟨fun fr H =>
 @aseqi (r34 fr H) ⟨fun fr H =>
 some (.ret, fr, H)⟩⟩⟩⟩⟩⟩⟩⟩⟩⟩⟩
@[simp] def res (fr : AFr) (H : AHeap) : Option (List AV) := res2 (aloadR (some (some 13)) (fr 4) H) (res2 (some (fr 5)) (res2 (some (fr 6)) (some [])))
end core_Step
def core_Step (a0 a1 : AV) (H : AHeap) : Option (AV × AHeap) := forget H (afinR core_Step.res (core_Step.body mem_Mem_Fetch.spec thumb_Take.spec core_holds.spec core_moves.spec core_reckons.spec thumb_Writes.spec (args0 [a0, a1]) H))
def core_Step.spec : List AV → AHeap → Option (AV × AHeap)
  | [a0, a1], H => core_Step a0 a1 H
  | _, _ => none
end
end Go.Abs
