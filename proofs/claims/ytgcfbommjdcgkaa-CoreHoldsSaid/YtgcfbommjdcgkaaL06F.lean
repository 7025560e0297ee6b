/-
  The functions, as they are over abstract values. Printed by gen.py.
-/
import Derived.Test.YtgcfbommjdcgkaaLoF
import Derived.Test.YtgcfbommjdcgkaaCoF
import Derived.Test.YtgcfbommjdcgkaaCrF
set_option linter.unusedVariables false
namespace Go.Abs
noncomputable section
/-! bauta/bautalaw06.lives: function 23 -/
namespace law06_lives
def C (s0 s1 : SpecM) : Tab := ((Tab.none.add 21 (.ref [true, false, true] s0)).add 20 (.ref [true, false] s1))
@[simp] def r0 (fr : AFr) (H : AHeap) : ARes :=
 areg (@opi _ (lift (some (.bool false)) H) ⟨fun v0 H =>
 some (AFr.al [], H)⟩)
@[simp] def r1 (s0 : SpecM) (fr : AFr) (H : AHeap) : ARes :=
 areg (@opi _ (abuildSliceR (some ⟨T.ty_uint16, 1, 2, [(W16 0#16)]⟩) 1 [(0, (W16 12289#16))] H) ⟨fun v5 H =>
 @opi _ (callM [true, false, true] s0 [[some 1], [none], [some 1]] [v5, (.int .i64 1), .nils] H) ⟨fun v6 H =>
 @opi _ (lift (some v6) H) ⟨fun v1 H =>
 some (AFr.al [(1, v1)], H)⟩⟩⟩)
@[simp] def r2 (s1 : SpecM) (fr : AFr) (H : AHeap) : ARes :=
 areg (@opi _ (lift (abuildR (.arr [(W32 0#32), (W32 0#32), (W32 0#32), (W32 0#32), (W32 0#32), (W32 0#32), (W32 0#32), (W32 0#32)] 1) [(0, (W32 4294967295#32))]) H) ⟨fun v8 H =>
 @opi _ (lift (abuildR (.str [(W32 0#32), (W32 0#32), (W32 0#32), (W32 0#32), (W32 0#32), (W32 0#32), (W32 0#32), (W32 0#32), (W32 0#32), (.bool false), (.bool false), (.bool false), (.bool false)] [(0, 8), (8, 1), (9, 1), (10, 1), (11, 1), (12, 1)]) [(0, v8)]) H) ⟨fun v9 H =>
 @opi _ (lift (some (fr 1)) H) ⟨fun v10 H =>
 @opi _ (callM [true, false] s1 [[none, none, none, none, none, none, none, none, none, none, none, none, none], [none]] [v9, v10] H) ⟨fun v11 H =>
 @opi _ (lift (some v11) H) ⟨fun v7 H =>
 @opi _ (lift (aextract v7 0) H) ⟨fun v12 H =>
 @opi _ (lift (aextract v7 1) H) ⟨fun v13 H =>
 @opi _ (lift (aextract v7 2) H) ⟨fun v14 H =>
 @opi _ (aallocR T.ty_api_State (some (.agg [(W32 0#32), (W32 0#32), (W32 0#32), (W32 0#32), (W32 0#32), (W32 0#32), (W32 0#32), (W32 0#32), (W32 0#32), (.bool false), (.bool false), (.bool false), (.bool false)])) H) ⟨fun v2 H =>
 @opi _ (liftS (astoreR (some 13) v2 v12 H)) ⟨fun _ H =>
 @opi _ (lift (some v13) H) ⟨fun v3 H =>
 @opi _ (lift (some v14) H) ⟨fun v4 H =>
 some (AFr.al [(2, v2), (3, v3), (4, v4)], H)⟩⟩⟩⟩⟩⟩⟩⟩⟩⟩⟩⟩)
@[simp] def r3 (fr : AFr) (H : AHeap) : ARes :=
 areg (@opi _ (lift (afieldAddrR (some 0) (fr 2)) H) ⟨fun v15 H =>
 @opi _ (lift (aindexAddrR (.arr 8 1) v15 (.int .i64 0)) H) ⟨fun v16 H =>
 @opi _ (lift (aloadR (some none) v16 H) H) ⟨fun v17 H =>
 @opi _ (lift (abinR .x .eql v17 (W32 0#32)) H) ⟨fun v18 H =>
 @opi _ (lift (some v18) H) ⟨fun v19 H =>
 @opi _ (@gdi (gw v19 true) ⟨lift (afieldAddrR (some 10) (fr 2)) H⟩ H) ⟨fun v20 H =>
 @opi _ (@gdi (gw v19 true) ⟨lift (aloadR (some none) v20 H) H⟩ H) ⟨fun v21 H =>
 @opi _ (lift (apick v19 v21 (.bool false)) H) ⟨fun v22 H =>
 @opi _ (lift (some v22) H) ⟨fun v23 H =>
 @opi _ (@gdi (gw v23 true) ⟨lift (afieldAddrR (some 11) (fr 2)) H⟩ H) ⟨fun v24 H =>
 @opi _ (@gdi (gw v23 true) ⟨lift (aloadR (some none) v24 H) H⟩ H) ⟨fun v25 H =>
 @opi _ (lift (apick v23 v25 (.bool false)) H) ⟨fun v26 H =>
 @opi _ (lift (some v26) H) ⟨fun v27 H =>
 @opi _ (@gdi (gw v27 true) ⟨lift (afieldAddrR (some 8) (fr 2)) H⟩ H) ⟨fun v28 H =>
 @opi _ (@gdi (gw v27 true) ⟨lift (aloadR (some none) v28 H) H⟩ H) ⟨fun v29 H =>
 @opi _ (@gdi (gw v27 true) ⟨lift (abinR .x .eql v29 (W32 2#32)) H⟩ H) ⟨fun v30 H =>
 @opi _ (lift (apick v27 v30 (.bool false)) H) ⟨fun v31 H =>
 @opi _ (lift (some v31) H) ⟨fun v32 H =>
 @opi _ (@gdi (gw v32 true) ⟨lift (some (fr 3)) H⟩ H) ⟨fun v33 H =>
 @opi _ (@gdi (gw v32 true) ⟨lift (aun .not v33) H⟩ H) ⟨fun v34 H =>
 @opi _ (lift (apick v32 v34 (.bool false)) H) ⟨fun v35 H =>
 @opi _ (lift (some v35) H) ⟨fun v36 H =>
 @opi _ (@gdi (gw v36 true) ⟨lift (some (fr 4)) H⟩ H) ⟨fun v37 H =>
 @opi _ (@gdi (gw v36 true) ⟨lift (abinR .x .eql v37 (.int .i64 0)) H⟩ H) ⟨fun v38 H =>
 @opi _ (lift (apick v36 v38 (.bool false)) H) ⟨fun v39 H =>
 @opi _ (lift (some v39) H) ⟨fun v0 H =>
 some (AFr.al [(0, v0)], H)⟩⟩⟩⟩⟩⟩⟩⟩⟩⟩⟩⟩⟩⟩⟩⟩⟩⟩⟩⟩⟩⟩⟩⟩⟩⟩)
@[simp] def body (s0 s1 : SpecM) (fr : AFr) (H : AHeap) : ARes :=
  @aseqi (r0 fr H) ⟨fun fr H =>
 @aseqi (r1 s0 fr H) ⟨fun fr H =>
 @aseqi (r2 s1 fr H) ⟨fun fr H =>
 @aseqi (r3 fr H) ⟨fun fr H =>
 some (.ret, fr, H)⟩⟩⟩⟩
@[simp] def res (fr : AFr) (H : AHeap) : Option (List AV) := res2 (some (fr 0)) (some [])
end law06_lives
def law06_lives : Option AV := closeUpR (some [[none]]) (afinR law06_lives.res (law06_lives.body mem_New.spec core_Step.spec (args0 []) AHeap.empty))
def law06_lives.spec : List AV → Option AV
  | [] => law06_lives
  | _ => none

/-! bauta/bautalaw06.CoreHolds: function 9 -/
namespace law06_CoreHolds
def C (s0 s1 s2 s3 s4 : SpecP) : Tab := (((((Tab.none.add 30 (.pure false s0)).add 31 (.pure false s1)).add 32 (.pure false s2)).add 33 (.pure false s3)).add 23 (.pure false s4))
@[simp] def r0 (fr : AFr) (H : AHeap) : ARes :=
 areg (@opi _ (abox T.ty_api_State (fr 1) H) ⟨fun v4 H =>
 @opi _ (lift (some (.bool false)) H) ⟨fun v6 H =>
 some (AFr.al [(0, fr 0), (2, fr 2), (4, v4)], H)⟩⟩)
@[simp] def r1 (s0 s1 s2 s3 s4 : SpecP) (fr : AFr) (H : AHeap) : ARes :=
 areg (@opi _ (lift (some (fr 0)) H) ⟨fun v7 H1 =>
 @opi _ (lift (aloadR (some (some 13)) (fr 4) H1) H1) ⟨fun v8 H2 =>
 @opi _ (callP false s0 [[none], [none, none, none, none, none, none, none, none, none, none, none, none, none]] [v7, v8] H2) ⟨fun v9 H3 =>
 @opi _ (lift (some (fr 0)) H3) ⟨fun v10 H4 =>
 @opi _ (lift (aloadR (some (some 13)) (fr 4) H4) H4) ⟨fun v11 H5 =>
 @opi _ (callP false s1 [[none], [none, none, none, none, none, none, none, none, none, none, none, none, none]] [v10, v11] H5) ⟨fun v12 H6 =>
 @opi _ (lift (abinR .b .eql v9 v12) H6) ⟨fun v13 H7 =>
 @opi _ (lift (some v13) H7) ⟨fun v14 H8 =>
 @opi _ (@gdi (gw v14 true) ⟨lift (aloadR (some (some 13)) (fr 4) H8) H8⟩ H8) ⟨fun v15 H9 =>
 @opi _ (@gdi (gw v14 true) ⟨lift (some (fr 2)) H9⟩ H9) ⟨fun v16 H10 =>
 @opi _ (@gdi (gw v14 true) ⟨callP false s2 [[none, none, none, none, none, none, none, none, none, none, none, none, none], [none]] [v15, v16] H10⟩ H10) ⟨fun v17 H11 =>
 @opi _ (@gdi (gw v14 true) ⟨lift (aloadR (some (some 13)) (fr 4) H11) H11⟩ H11) ⟨fun v18 H12 =>
 @opi _ (@gdi (gw v14 true) ⟨lift (some (fr 2)) H12⟩ H12) ⟨fun v19 H13 =>
 @opi _ (@gdi (gw v14 true) ⟨callP false s3 [[none, none, none, none, none, none, none, none, none, none, none, none, none], [none]] [v18, v19] H13⟩ H13) ⟨fun v20 H14 =>
 @opi _ (@gdi (gw v14 true) ⟨lift (abinR (.c [.i, .i, .i, .i, .i, .i, .i, .i, .i, .b, .b, .b, .b]) .eql v17 v20) H14⟩ H14) ⟨fun v21 H15 =>
 @opi _ (lift (apick v14 v21 (.bool false)) H15) ⟨fun v22 H16 =>
 @opi _ (lift (some v22) H16) ⟨fun v23 H17 =>
 @opi _ (@gdi (gw v23 true) ⟨callP false s4 [] [] H17⟩ H17) ⟨fun v24 H18 =>
 @opi _ (lift (apick v23 v24 (.bool false)) H18) ⟨fun v25 H19 =>
 @opi _ (lift (some v25) H19) ⟨fun v6 H20 =>
 withChk [aloadR (some (some 13)) (fr 4) H2 = aloadR (some (some 13)) (fr 4) H3, aloadR (some (some 13)) (fr 4) H10 = aloadR (some (some 13)) (fr 4) H11] (some (AFr.al [(6, v6)], H20))⟩⟩⟩⟩⟩⟩⟩⟩⟩⟩⟩⟩⟩⟩⟩⟩⟩⟩⟩⟩)
@[simp] def body (s0 s1 s2 s3 s4 : SpecP) (fr : AFr) (H : AHeap) : ARes :=
  @aseqi (r0 fr H) ⟨fun fr H =>
 @aseqi (r1 s0 s1 s2 s3 s4 fr H) ⟨fun fr H =>
 some (.ret, fr, H)⟩⟩
@[simp] def res (fr : AFr) (H : AHeap) : Option (List AV) := res2 (some (fr 6)) (some [])
end law06_CoreHolds
def law06_CoreHolds (a0 a1 a2 : AV) : Option AV := closeUpR (some [[none]]) (afinR law06_CoreHolds.res (law06_CoreHolds.body core_Holds.spec ref06_Holds.spec core_Flags.spec ref06_Flags.spec law06_lives.spec (args0 [a0, a1, a2]) AHeap.empty))
def law06_CoreHolds.spec : List AV → Option AV
  | [a0, a1, a2] => law06_CoreHolds a0 a1 a2
  | _ => none

/-! bauta/bautalaw06.CoreRuns: function 7 -/
namespace law06_CoreRuns
def C (s0 s1 s2 s3 s4 : SpecM) (s5 s6 : SpecP) : Tab := (((((((Tab.none.add 21 (.ref [true, false, true] s0)).add 24 (.ref [true, false, true] s1)).add 20 (.ref [true, false] s2)).add 25 (.ref [true, false] s3)).add 27 (.ref [false] s4)).add 26 (.pure false s5)).add 23 (.pure false s6))
@[simp] def r0 (fr : AFr) (H : AHeap) : ARes :=
 areg (@opi _ (abox T.ty_api_State (fr 1) H) ⟨fun v4 H =>
 @opi _ (lift (some (.bool false)) H) ⟨fun v6 H =>
 some (AFr.al [(0, fr 0), (2, fr 2), (4, v4)], H)⟩⟩)
@[simp] def r1 (fr : AFr) (H : AHeap) : ARes :=
 areg (@opi _ (lift (some (fr 0)) H) ⟨fun v16 H =>
 @opi _ (lift (alenR .sl v16) H) ⟨fun v17 H =>
 @opi _ (lift (abinR .x .gtr v17 (.int .i64 60)) H) ⟨fun v18 H =>
 some (AFr.al [(0, fr 0), (2, fr 2), (4, fr 4), (18, v18)], H)⟩⟩⟩)
@[simp] def r2 (fr : AFr) (H : AHeap) : ARes :=
 areg (@opi _ (lift (some (fr 0)) H) ⟨fun v19 H =>
 @opi _ (lift (asliceR (.sl 1) v19 none (some (.int .i64 60)) none) H) ⟨fun v20 H =>
 @opi _ (lift (some v20) H) ⟨fun v0 H =>
 some (AFr.al [(0, v0), (2, fr 2), (4, fr 4)], H)⟩⟩⟩)
@[simp] def r3 (fr : AFr) (H : AHeap) : ARes :=
 areg (@opi _ (lift (some (fr 2)) H) ⟨fun v21 H =>
 @opi _ (lift (alenR .sl v21) H) ⟨fun v22 H =>
 @opi _ (lift (abinR .x .gtr v22 (.int .i64 30)) H) ⟨fun v23 H =>
 some (AFr.al [(0, fr 0), (2, fr 2), (4, fr 4), (23, v23)], H)⟩⟩⟩)
@[simp] def r4 (fr : AFr) (H : AHeap) : ARes :=
 areg (@opi _ (lift (some (fr 2)) H) ⟨fun v24 H =>
 @opi _ (lift (asliceR (.sl 1) v24 none (some (.int .i64 30)) none) H) ⟨fun v25 H =>
 @opi _ (lift (some v25) H) ⟨fun v2 H =>
 some (AFr.al [(0, fr 0), (2, v2), (4, fr 4)], H)⟩⟩⟩)
@[simp] def r5 (s0 s1 : SpecM) (fr : AFr) (H : AHeap) : ARes :=
 areg (@opi _ (abuildSliceR (some ⟨T.ty_uint16, 1, 2, [(W16 0#16)]⟩) 0 [] H) ⟨fun v26 H =>
 @opi _ (lift (some (fr 0)) H) ⟨fun v27 H =>
 @opi _ (aappendR (some ⟨T.ty_uint16, 1, 2, [(W16 0#16)]⟩) v26 v27 H) ⟨fun v28 H =>
 @opi _ (abuildSliceR (some ⟨T.ty_uint32, 1, 4, [(W32 0#32)]⟩) 0 [] H) ⟨fun v29 H =>
 @opi _ (lift (some (fr 2)) H) ⟨fun v30 H =>
 @opi _ (aappendR (some ⟨T.ty_uint32, 1, 4, [(W32 0#32)]⟩) v29 v30 H) ⟨fun v31 H =>
 @opi _ (callM [true, false, true] s0 [[some 1], [none], [some 1]] [v28, (.int .i64 4), v31] H) ⟨fun v32 H =>
 @opi _ (lift (some (fr 0)) H) ⟨fun v33 H =>
 @opi _ (lift (some (fr 2)) H) ⟨fun v34 H =>
 @opi _ (callM [true, false, true] s1 [[some 1], [none], [some 1]] [v33, (.int .i64 4), v34] H) ⟨fun v35 H =>
 @opi _ (lift (some v32) H) ⟨fun v7 H =>
 @opi _ (lift (some v35) H) ⟨fun v8 H =>
 some (AFr.al [(4, fr 4), (7, v7), (8, v8)], H)⟩⟩⟩⟩⟩⟩⟩⟩⟩⟩⟩⟩)
@[simp] def r6 (fr : AFr) (H : AHeap) : ARes :=
 areg (@opi _ (lift (some (fr 7)) H) ⟨fun v36 H =>
 @opi _ (lift (abinR .p .eql v36 .nilp) H) ⟨fun v37 H =>
 some (AFr.al [(4, fr 4), (7, fr 7), (8, fr 8), (37, v37)], H)⟩⟩)
@[simp] def r7 (fr : AFr) (H : AHeap) : ARes :=
 areg (@opi _ (lift (some (.bool false)) H) ⟨fun v6 H =>
 some (AFr.al [(6, v6)], H)⟩)
@[simp] def r8 (fr : AFr) (H : AHeap) : ARes :=
 areg (@opi _ (lift (afieldAddrR (some 8) (fr 4)) H) ⟨fun v38 H =>
 @opi _ (liftS (astoreR (some 1) v38 (W32 0#32) H)) ⟨fun _ H =>
 some (AFr.al [(4, fr 4), (7, fr 7), (8, fr 8)], H)⟩⟩)
@[simp] def r9 (fr : AFr) (H : AHeap) : ARes :=
 areg (@opi _ (lift (some (.int .i64 0)) H) ⟨fun v9 H =>
 some (AFr.al [(4, fr 4), (7, fr 7), (8, fr 8), (9, v9)], H)⟩)
@[simp] def r10 (fr : AFr) (H : AHeap) : ARes :=
 areg (@opi _ (lift (some (fr 9)) H) ⟨fun v39 H =>
 @opi _ (lift (abinR .x .lss v39 (.int .i64 80)) H) ⟨fun v40 H =>
 some (AFr.al [(4, fr 4), (7, fr 7), (8, fr 8), (9, fr 9), (40, v40)], H)⟩⟩)
@[simp] def r12 (s2 : SpecM) (fr : AFr) (H : AHeap) : ARes :=
 areg (@opi _ (lift (aloadR (some (some 13)) (fr 4) H) H) ⟨fun v44 H =>
 @opi _ (lift (some (fr 7)) H) ⟨fun v45 H =>
 @opi _ (callM [true, false] s2 [[none, none, none, none, none, none, none, none, none, none, none, none, none], [none]] [v44, v45] H) ⟨fun v46 H =>
 @opi _ (lift (some v46) H) ⟨fun v43 H =>
 @opi _ (lift (aextract v43 0) H) ⟨fun v47 H =>
 @opi _ (lift (aextract v43 1) H) ⟨fun v48 H =>
 @opi _ (lift (aextract v43 2) H) ⟨fun v49 H =>
 @opi _ (aallocR T.ty_api_State (some (.agg [(W32 0#32), (W32 0#32), (W32 0#32), (W32 0#32), (W32 0#32), (W32 0#32), (W32 0#32), (W32 0#32), (W32 0#32), (.bool false), (.bool false), (.bool false), (.bool false)])) H) ⟨fun v10 H =>
 @opi _ (liftS (astoreR (some 13) v10 v47 H)) ⟨fun _ H =>
 @opi _ (lift (some v48) H) ⟨fun v11 H =>
 @opi _ (lift (some v49) H) ⟨fun v12 H =>
 some (AFr.al [(4, fr 4), (7, fr 7), (8, fr 8), (9, fr 9), (10, v10), (11, v11), (12, v12)], H)⟩⟩⟩⟩⟩⟩⟩⟩⟩⟩⟩)
@[simp] def r13 (s3 : SpecM) (fr : AFr) (H : AHeap) : ARes :=
 areg (@opi _ (lift (aloadR (some (some 13)) (fr 4) H) H) ⟨fun v51 H =>
 @opi _ (lift (some (fr 8)) H) ⟨fun v52 H =>
 @opi _ (callM [true, false] s3 [[none, none, none, none, none, none, none, none, none, none, none, none, none], [none]] [v51, v52] H) ⟨fun v53 H =>
 @opi _ (lift (some v53) H) ⟨fun v50 H =>
 @opi _ (lift (aextract v50 0) H) ⟨fun v54 H =>
 @opi _ (lift (aextract v50 1) H) ⟨fun v55 H =>
 @opi _ (lift (aextract v50 2) H) ⟨fun v56 H =>
 @opi _ (aallocR T.ty_api_State (some (.agg [(W32 0#32), (W32 0#32), (W32 0#32), (W32 0#32), (W32 0#32), (W32 0#32), (W32 0#32), (W32 0#32), (W32 0#32), (.bool false), (.bool false), (.bool false), (.bool false)])) H) ⟨fun v13 H =>
 @opi _ (liftS (astoreR (some 13) v13 v54 H)) ⟨fun _ H =>
 @opi _ (lift (some v55) H) ⟨fun v14 H =>
 @opi _ (lift (some v56) H) ⟨fun v15 H =>
 some (AFr.al [(4, fr 4), (7, fr 7), (8, fr 8), (9, fr 9), (10, fr 10), (11, fr 11), (12, fr 12), (13, v13), (14, v14), (15, v15)], H)⟩⟩⟩⟩⟩⟩⟩⟩⟩⟩⟩)
@[simp] def r14 (s4 : SpecM) (s5 : SpecP) (fr : AFr) (H : AHeap) : ARes :=
 areg (@opi _ (lift (aloadR (some (some 13)) (fr 10) H) H) ⟨fun v57 H1 =>
 @opi _ (lift (aloadR (some (some 13)) (fr 13) H1) H1) ⟨fun v58 H2 =>
 @opi _ (lift (abinR (.c [.i, .i, .i, .i, .i, .i, .i, .i, .i, .b, .b, .b, .b]) .neq v57 v58) H2) ⟨fun v59 H3 =>
 @opi _ (lift (some v59) H3) ⟨fun v60 H4 =>
 @opi _ (@gdi (gw v60 false) ⟨lift (some (fr 11)) H4⟩ H4) ⟨fun v61 H5 =>
 @opi _ (@gdi (gw v60 false) ⟨lift (some (fr 14)) H5⟩ H5) ⟨fun v62 H6 =>
 @opi _ (@gdi (gw v60 false) ⟨lift (abinR .b .neq v61 v62) H6⟩ H6) ⟨fun v63 H7 =>
 @opi _ (lift (apick v60 (.bool true) v63) H7) ⟨fun v64 H8 =>
 @opi _ (lift (some v64) H8) ⟨fun v65 H9 =>
 @opi _ (@gdi (gw v65 false) ⟨lift (some (fr 12)) H9⟩ H9) ⟨fun v66 H10 =>
 @opi _ (@gdi (gw v65 false) ⟨lift (some (fr 15)) H10⟩ H10) ⟨fun v67 H11 =>
 @opi _ (@gdi (gw v65 false) ⟨lift (abinR .x .neq v66 v67) H11⟩ H11) ⟨fun v68 H12 =>
 @opi _ (lift (apick v65 (.bool true) v68) H12) ⟨fun v69 H13 =>
 @opi _ (lift (some v69) H13) ⟨fun v70 H14 =>
 @opi _ (@gdi (gw v70 false) ⟨lift (some (fr 7)) H14⟩ H14) ⟨fun v71 H15 =>
 @opi _ (san H15 (@gdi (gw v70 false) ⟨callM [false] s4 [[none]] [v71] H15⟩ H15)) ⟨fun v72 H16 =>
 @opi _ (@gdi (gw v70 false) ⟨lift (some (fr 8)) H16⟩ H16) ⟨fun v73 H17 =>
 @opi _ (@gdi (gw v70 false) ⟨lift (anil v73) H17⟩ H17) ⟨fun v74 H18 =>
 @opi _ (@gdi (gw v70 false) ⟨lift (afieldAddrR (some 1) v74) H18⟩ H18) ⟨fun v75 H19 =>
 @opi _ (@gdi (gw v70 false) ⟨lift (aloadR (some none) v75 H19) H19⟩ H19) ⟨fun v76 H20 =>
 @opi _ (@gdi (gw v70 false) ⟨callP false s5 [[some 1], [some 1]] [v72, v76] H20⟩ H20) ⟨fun v77 H21 =>
 @opi _ (@gdi (gw v70 false) ⟨lift (aun .not v77) H21⟩ H21) ⟨fun v78 H22 =>
 @opi _ (lift (apick v70 (.bool true) v78) H22) ⟨fun v79 H23 =>
 withChk [aloadR (some none) v75 H15 = aloadR (some none) v75 H16] (some (AFr.al [(4, fr 4), (7, fr 7), (8, fr 8), (9, fr 9), (10, fr 10), (11, fr 11), (12, fr 12), (79, v79)], H23))⟩⟩⟩⟩⟩⟩⟩⟩⟩⟩⟩⟩⟩⟩⟩⟩⟩⟩⟩⟩⟩⟩⟩)
@[simp] def r15 (fr : AFr) (H : AHeap) : ARes :=
 areg (@opi _ (lift (some (.bool false)) H) ⟨fun v6 H =>
 some (AFr.al [(6, v6)], H)⟩)
@[simp] def r16 (fr : AFr) (H : AHeap) : ARes :=
 areg (@opi _ (lift (some (fr 11)) H) ⟨fun v80 H =>
 @opi _ (lift (some v80) H) ⟨fun v81 H =>
 @opi _ (@gdi (gw v81 false) ⟨lift (some (fr 12)) H⟩ H) ⟨fun v82 H =>
 @opi _ (@gdi (gw v81 false) ⟨lift (abinR .x .neq v82 (.int .i64 0)) H⟩ H) ⟨fun v83 H =>
 @opi _ (lift (apick v81 (.bool true) v83) H) ⟨fun v84 H =>
 some (AFr.al [(4, fr 4), (7, fr 7), (8, fr 8), (9, fr 9), (10, fr 10), (84, v84)], H)⟩⟩⟩⟩⟩)
@[simp] def r17 (s6 : SpecP) (fr : AFr) (H : AHeap) : ARes :=
 areg (@opi _ (lift (aloadR (some (some 13)) (fr 10) H) H) ⟨fun v85 H =>
 @opi _ (lift (aloadR (some (some 13)) (fr 4) H) H) ⟨fun v86 H =>
 @opi _ (lift (abinR (.c [.i, .i, .i, .i, .i, .i, .i, .i, .i, .b, .b, .b, .b]) .eql v85 v86) H) ⟨fun v87 H =>
 @opi _ (lift (some v87) H) ⟨fun v88 H =>
 @opi _ (@gdi (gw v88 true) ⟨callP false s6 [] [] H⟩ H) ⟨fun v89 H =>
 @opi _ (lift (apick v88 v89 (.bool false)) H) ⟨fun v90 H =>
 @opi _ (lift (some v90) H) ⟨fun v6 H =>
 some (AFr.al [(6, v6)], H)⟩⟩⟩⟩⟩⟩⟩)
@[simp] def r18 (fr : AFr) (H : AHeap) : ARes :=
 areg (@opi _ (lift (aloadR (some (some 13)) (fr 10) H) H) ⟨fun v91 H =>
 @opi _ (liftS (astoreR (some 13) (fr 4) v91 H)) ⟨fun _ H =>
 some (AFr.al [(4, fr 4), (7, fr 7), (8, fr 8), (9, fr 9)], H)⟩⟩)
@[simp] def r11 (fr : AFr) (H : AHeap) : ARes :=
 areg (@opi _ (lift (some (fr 9)) H) ⟨fun v41 H =>
 @opi _ (lift (abinR .x .add v41 (.int .i64 1)) H) ⟨fun v42 H =>
 @opi _ (lift (some v42) H) ⟨fun v9 H =>
 some (AFr.al [(4, fr 4), (7, fr 7), (8, fr 8), (9, v9)], H)⟩⟩⟩)
@[simp] def r19 (s6 : SpecP) (fr : AFr) (H : AHeap) : ARes :=
 areg (@opi _ (callP false s6 [] [] H) ⟨fun v92 H =>
 @opi _ (lift (some v92) H) ⟨fun v6 H =>
 some (AFr.al [(6, v6)], H)⟩⟩)
def l0 (s0 s1 s2 s3 s4 : SpecM) (s5 s6 : SpecP) (fr : AFr) (H : AHeap) : ARes :=
  @aseqi (@aseqi (r10 fr H) ⟨fun fr H =>
 @acondi (fr 40)
 ⟨some (.normal, fr, H)⟩
 ⟨some (.exit 0, fr, H)⟩⟩) ⟨fun fr H =>
 @aseqi (aexit 1 (@aseqi (r12 s2 fr H) ⟨fun fr H =>
 @aseqi (r13 s3 fr H) ⟨fun fr H =>
 @aseqi (@aseqi (r14 s4 s5 fr H) ⟨fun fr H =>
 @acondi (fr 79)
 ⟨@aseqi (r15 fr H) ⟨fun fr H =>
 some (.ret, fr, H)⟩⟩
 ⟨some (.normal, fr, H)⟩⟩) ⟨fun fr H =>
 @aseqi (@aseqi (r16 fr H) ⟨fun fr H =>
 @acondi (fr 84)
 ⟨@aseqi (r17 s6 fr H) ⟨fun fr H =>
 some (.ret, fr, H)⟩⟩
 ⟨some (.normal, fr, H)⟩⟩) ⟨fun fr H =>
 r18 fr H⟩⟩⟩⟩)) ⟨fun fr H =>
 r11 fr H⟩⟩
@[simp] def body (s0 s1 s2 s3 s4 : SpecM) (s5 s6 : SpecP) (fr : AFr) (H : AHeap) : ARes :=
  @aseqi (r0 fr H) ⟨fun fr H =>
 @aseqi (@aseqi (r1 fr H) ⟨fun fr H =>
 @acondi (fr 18)
 ⟨r2 fr H⟩
 ⟨some (.normal, fr, H)⟩⟩) ⟨fun fr H =>
 @aseqi (@aseqi (r3 fr H) ⟨fun fr H =>
 @acondi (fr 23)
 ⟨r4 fr H⟩
 ⟨some (.normal, fr, H)⟩⟩) ⟨fun fr H =>
 @aseqi (r5 s0 s1 fr H) ⟨fun fr H =>
 @aseqi (@aseqi (r6 fr H) ⟨fun fr H =>
 @acondi (fr 37)
 ⟨@aseqi (r7 fr H) ⟨fun fr H =>
 some (.ret, fr, H)⟩⟩
 ⟨some (.normal, fr, H)⟩⟩) ⟨fun fr H =>
 @aseqi (r8 fr H) ⟨fun fr H =>
 @aseqi (@aseqi (r9 fr H) ⟨fun fr H =>
  aexit 0 (aloop (l0 s0 s1 s2 s3 s4 s5 s6) fr H)⟩) ⟨fun fr H =>
 @aseqi (r19 s6 fr H) ⟨fun fr H =>
 some (.ret, fr, H)⟩⟩⟩⟩⟩⟩⟩⟩
@[simp] def res (fr : AFr) (H : AHeap) : Option (List AV) := res2 (some (fr 6)) (some [])
end law06_CoreRuns
def law06_CoreRuns (a0 a1 a2 : AV) : Option AV := closeUpR (some [[none]]) (afinR law06_CoreRuns.res (law06_CoreRuns.body mem_New.spec ref05_New.spec core_Step.spec ref06_Step.spec mem_Mem_Words.spec ref05_Same.spec law06_lives.spec (args0 [a0, a1, a2]) AHeap.empty))
def law06_CoreRuns.spec : List AV → Option AV
  | [a0, a1, a2] => law06_CoreRuns a0 a1 a2
  | _ => none

end
end Go.Abs
