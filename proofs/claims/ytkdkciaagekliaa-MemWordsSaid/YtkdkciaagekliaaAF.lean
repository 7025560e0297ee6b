/-
  The functions, as they are over abstract values. Printed by gen.py.
-/
import Derived.Test.YtkdkciaagekliaaT
set_option linter.unusedVariables false
namespace Go.Abs
/-! bauta/bautalaw05.short: function 20 -/
namespace law05_short
noncomputable def C : Tab := Tab.none
@[simp] noncomputable def r0 (fr : AFr) (H : AHeap) : ARes :=
  areg (@opi _ (lift (some .nils) H) ⟨fun v4 H =>
    @opi _ (lift (some .nils) H) ⟨fun v5 H =>
    some (AFr.al [(0, fr 0), (1, fr 1)], H)⟩⟩)
@[simp] noncomputable def r1 (fr : AFr) (H : AHeap) : ARes :=
  areg (@opi _ (lift (some (fr 0)) H) ⟨fun v6 H =>
    @opi _ (lift (alenR .sl v6) H) ⟨fun v7 H =>
    @opi _ (lift (abinR .x .gtr v7 (.int .i64 300)) H) ⟨fun v8 H =>
    some (AFr.al [(0, fr 0), (1, fr 1), (8, v8)], H)⟩⟩⟩)
@[simp] noncomputable def r2 (fr : AFr) (H : AHeap) : ARes :=
  areg (@opi _ (lift (some (fr 0)) H) ⟨fun v9 H =>
    @opi _ (lift (asliceR (.sl 1) v9 none (some (.int .i64 300)) none) H) ⟨fun v10 H =>
    @opi _ (lift (some v10) H) ⟨fun v0 H =>
    some (AFr.al [(0, v0), (1, fr 1)], H)⟩⟩⟩)
@[simp] noncomputable def r3 (fr : AFr) (H : AHeap) : ARes :=
  areg (@opi _ (lift (some (fr 1)) H) ⟨fun v11 H =>
    @opi _ (lift (alenR .sl v11) H) ⟨fun v12 H =>
    @opi _ (lift (abinR .x .gtr v12 (.int .i64 100)) H) ⟨fun v13 H =>
    some (AFr.al [(0, fr 0), (1, fr 1), (13, v13)], H)⟩⟩⟩)
@[simp] noncomputable def r4 (fr : AFr) (H : AHeap) : ARes :=
  areg (@opi _ (lift (some (fr 1)) H) ⟨fun v14 H =>
    @opi _ (lift (asliceR (.sl 1) v14 none (some (.int .i64 100)) none) H) ⟨fun v15 H =>
    @opi _ (lift (some v15) H) ⟨fun v1 H =>
    some (AFr.al [(0, fr 0), (1, v1)], H)⟩⟩⟩)
@[simp] noncomputable def r5 (fr : AFr) (H : AHeap) : ARes :=
  areg (@opi _ (abuildSliceR (some ⟨T.ty_uint16, 1, 2, [(W16 0#16)]⟩) 0 [] H) ⟨fun v16 H =>
    @opi _ (lift (some (fr 0)) H) ⟨fun v17 H =>
    @opi _ (aappendR (some ⟨T.ty_uint16, 1, 2, [(W16 0#16)]⟩) v16 v17 H) ⟨fun v18 H =>
    @opi _ (abuildSliceR (some ⟨T.ty_uint32, 1, 4, [(W32 0#32)]⟩) 0 [] H) ⟨fun v19 H =>
    @opi _ (lift (some (fr 1)) H) ⟨fun v20 H =>
    @opi _ (aappendR (some ⟨T.ty_uint32, 1, 4, [(W32 0#32)]⟩) v19 v20 H) ⟨fun v21 H =>
    @opi _ (lift (some v18) H) ⟨fun v4 H =>
    @opi _ (lift (some v21) H) ⟨fun v5 H =>
    some (AFr.al [(4, v4), (5, v5)], H)⟩⟩⟩⟩⟩⟩⟩⟩)
@[simp] noncomputable def body (fr : AFr) (H : AHeap) : ARes :=
  @aseqi (r0 fr H) ⟨fun fr H =>
  @aseqi (@aseqi (r1 fr H) ⟨fun fr H =>
  @acondi (fr 8)
    ⟨r2 fr H⟩
    ⟨some (.normal, fr, H)⟩⟩) ⟨fun fr H =>
  @aseqi (@aseqi (r3 fr H) ⟨fun fr H =>
  @acondi (fr 13)
    ⟨r4 fr H⟩
    ⟨some (.normal, fr, H)⟩⟩) ⟨fun fr H =>
  @aseqi (r5 fr H) ⟨fun fr H =>
  some (.ret, fr, H)⟩⟩⟩⟩
@[simp] def res (fr : AFr) (H : AHeap) : Option (List AV) := res2 (some (fr 4)) (res2 (some (fr 5)) (some []))
end law05_short
noncomputable def law05_short (a0 a1 : AV) : Option AV := closeUpR (some [[some 1], [some 1]]) (afinR law05_short.res (law05_short.body (args0 [a0, a1]) AHeap.empty))
noncomputable def law05_short.spec : List AV → Option AV
  | [a0, a1] => law05_short a0 a1
  | _ => none

/-! slices.Clone[[]uint16,uint16]: function 58 -/
namespace slices_Clone_uint16
noncomputable def C : Tab := Tab.none
@[simp] noncomputable def r0 (fr : AFr) (H : AHeap) : ARes :=
  areg (@opi _ (lift (some .nils) H) ⟨fun v2 H =>
    some (AFr.al [(0, fr 0)], H)⟩)
@[simp] noncomputable def r1 (fr : AFr) (H : AHeap) : ARes :=
  areg (@opi _ (lift (some (fr 0)) H) ⟨fun v3 H =>
    @opi _ (lift (abinR .s .eql v3 .nils) H) ⟨fun v4 H =>
    some (AFr.al [(0, fr 0), (4, v4)], H)⟩⟩)
@[simp] noncomputable def r2 (fr : AFr) (H : AHeap) : ARes :=
  areg (@opi _ (lift (some .nils) H) ⟨fun v2 H =>
    some (AFr.al [(2, v2)], H)⟩)
@[simp] noncomputable def r3 (fr : AFr) (H : AHeap) : ARes :=
  areg (@opi _ (abuildSliceR (some ⟨T.ty_uint16, 1, 2, [(W16 0#16)]⟩) 0 [] H) ⟨fun v5 H =>
    @opi _ (lift (some (fr 0)) H) ⟨fun v6 H =>
    @opi _ (aappendR (some ⟨T.ty_uint16, 1, 2, [(W16 0#16)]⟩) v5 v6 H) ⟨fun v7 H =>
    @opi _ (lift (some v7) H) ⟨fun v2 H =>
    some (AFr.al [(2, v2)], H)⟩⟩⟩⟩)
@[simp] noncomputable def body (fr : AFr) (H : AHeap) : ARes :=
  @aseqi (r0 fr H) ⟨fun fr H =>
  @aseqi (@aseqi (r1 fr H) ⟨fun fr H =>
  @acondi (fr 4)
    ⟨@aseqi (r2 fr H) ⟨fun fr H =>
    some (.ret, fr, H)⟩⟩
    ⟨some (.normal, fr, H)⟩⟩) ⟨fun fr H =>
  @aseqi (r3 fr H) ⟨fun fr H =>
  some (.ret, fr, H)⟩⟩⟩
@[simp] def res (fr : AFr) (H : AHeap) : Option (List AV) := res2 (some (fr 2)) (some [])
end slices_Clone_uint16
noncomputable def slices_Clone_uint16.run (a0 : AV) : Option AV := copyUpR (some [[some 1]]) (afinR slices_Clone_uint16.res (slices_Clone_uint16.body (args0 [a0]) AHeap.empty))
noncomputable def slices_Clone_uint16.run.spec : List AV → Option AV
  | [a0] => slices_Clone_uint16.run a0
  | _ => none
def slices_Clone_uint16.spec : List AV → Option AV := cloneSpec 1 2

/-! slices.Clone[[]uint32,uint32]: function 59 -/
namespace slices_Clone_uint32
noncomputable def C : Tab := Tab.none
@[simp] noncomputable def r0 (fr : AFr) (H : AHeap) : ARes :=
  areg (@opi _ (lift (some .nils) H) ⟨fun v2 H =>
    some (AFr.al [(0, fr 0)], H)⟩)
@[simp] noncomputable def r1 (fr : AFr) (H : AHeap) : ARes :=
  areg (@opi _ (lift (some (fr 0)) H) ⟨fun v3 H =>
    @opi _ (lift (abinR .s .eql v3 .nils) H) ⟨fun v4 H =>
    some (AFr.al [(0, fr 0), (4, v4)], H)⟩⟩)
@[simp] noncomputable def r2 (fr : AFr) (H : AHeap) : ARes :=
  areg (@opi _ (lift (some .nils) H) ⟨fun v2 H =>
    some (AFr.al [(2, v2)], H)⟩)
@[simp] noncomputable def r3 (fr : AFr) (H : AHeap) : ARes :=
  areg (@opi _ (abuildSliceR (some ⟨T.ty_uint32, 1, 4, [(W32 0#32)]⟩) 0 [] H) ⟨fun v5 H =>
    @opi _ (lift (some (fr 0)) H) ⟨fun v6 H =>
    @opi _ (aappendR (some ⟨T.ty_uint32, 1, 4, [(W32 0#32)]⟩) v5 v6 H) ⟨fun v7 H =>
    @opi _ (lift (some v7) H) ⟨fun v2 H =>
    some (AFr.al [(2, v2)], H)⟩⟩⟩⟩)
@[simp] noncomputable def body (fr : AFr) (H : AHeap) : ARes :=
  @aseqi (r0 fr H) ⟨fun fr H =>
  @aseqi (@aseqi (r1 fr H) ⟨fun fr H =>
  @acondi (fr 4)
    ⟨@aseqi (r2 fr H) ⟨fun fr H =>
    some (.ret, fr, H)⟩⟩
    ⟨some (.normal, fr, H)⟩⟩) ⟨fun fr H =>
  @aseqi (r3 fr H) ⟨fun fr H =>
  some (.ret, fr, H)⟩⟩⟩
@[simp] def res (fr : AFr) (H : AHeap) : Option (List AV) := res2 (some (fr 2)) (some [])
end slices_Clone_uint32
noncomputable def slices_Clone_uint32.run (a0 : AV) : Option AV := copyUpR (some [[some 1]]) (afinR slices_Clone_uint32.res (slices_Clone_uint32.body (args0 [a0]) AHeap.empty))
noncomputable def slices_Clone_uint32.run.spec : List AV → Option AV
  | [a0] => slices_Clone_uint32.run a0
  | _ => none
def slices_Clone_uint32.spec : List AV → Option AV := cloneSpec 1 4

/-! bauta/mem.New: function 21 -/
namespace mem_New
noncomputable def C (s0 : SpecP) (s1 : SpecP) : Tab := ((Tab.none.add 58 (.pure true s0)).add 59 (.pure true s1))
@[simp] noncomputable def r0 (s0 : SpecP) (s1 : SpecP) (fr : AFr) (H : AHeap) : ARes :=
  areg (@opi _ (lift (some .nilp) H) ⟨fun v6 H =>
    some (AFr.al [(0, fr 0), (1, fr 1), (2, fr 2)], H)⟩)
@[simp] noncomputable def r1 (s0 : SpecP) (s1 : SpecP) (fr : AFr) (H : AHeap) : ARes :=
  areg (@opi _ (lift (some (fr 0)) H) ⟨fun v7 H1 =>
    @opi _ (lift (some (fr 0)) H1) ⟨fun v8 H2 =>
    @opi _ (lift (alenR .sl v8) H2) ⟨fun v9 H3 =>
    @opi _ (lift (amin v9 (.int .i64 60000)) H3) ⟨fun v10 H4 =>
    @opi _ (lift (asliceR (.sl 1) v7 none (some v10) none) H4) ⟨fun v11 H5 =>
    @opi _ (callP true s0 [[some 1]] [v11] H5) ⟨fun v12 H6 =>
    @opi _ (lift (some (fr 1)) H6) ⟨fun v13 H7 =>
    @opi _ (lift (amax v13 (.int .i64 0)) H7) ⟨fun v14 H8 =>
    @opi _ (lift (amin v14 (.int .i64 16000)) H8) ⟨fun v15 H9 =>
    @opi _ (amakeR (some ⟨T.ty_uint32, 1, 4, [(W32 0#32)]⟩) v15 v15 H9) ⟨fun v16 H10 =>
    @opi _ (lift (some (fr 2)) H10) ⟨fun v17 H11 =>
    @opi _ (callP true s1 [[some 1]] [v17] H11) ⟨fun v18 H12 =>
    @opi _ (lift (abuildR (.str [.nils, .nils, .nils, (.int .i64 0), (W32 0#32)] [(0, 1), (1, 1), (2, 1), (3, 1), (4, 1)]) [(0, v12), (1, v16), (2, v18)]) H12) ⟨fun v19 H13 =>
    @opi _ (abox T.ty_mem_Mem v19 H13) ⟨fun v20 H14 =>
    @opi _ (lift (some v20) H14) ⟨fun v6 H15 =>
    some (AFr.al [(6, v6)], H15)⟩⟩⟩⟩⟩⟩⟩⟩⟩⟩⟩⟩⟩⟩⟩)
@[simp] noncomputable def body (s0 : SpecP) (s1 : SpecP) (fr : AFr) (H : AHeap) : ARes :=
  @aseqi (r0 s0 s1 fr H) ⟨fun fr H =>
  @aseqi (r1 s0 s1 fr H) ⟨fun fr H =>
  some (.ret, fr, H)⟩⟩
@[simp] def res (fr : AFr) (H : AHeap) : Option (List AV) := res2 (some (fr 6)) (some [])
end mem_New
noncomputable def mem_New (a0 a1 a2 : AV) (H : AHeap) : Option (AV × AHeap) := raw (afinR mem_New.res (mem_New.body slices_Clone_uint16.spec slices_Clone_uint32.spec (args0 [a0, a1, a2]) H))
noncomputable def mem_New.spec : List AV → AHeap → Option (AV × AHeap)
  | [a0, a1, a2], H => mem_New a0 a1 a2 H
  | _, _ => none

/-! (*bauta/mem.Mem).place: function 61 -/
namespace mem_Mem_place
noncomputable def C : Tab := Tab.none
@[simp] noncomputable def r0 (fr : AFr) (H : AHeap) : ARes :=
  areg (@opi _ (lift (some (.int .i64 0)) H) ⟨fun v4 H =>
    @opi _ (lift (some (.bool false)) H) ⟨fun v5 H =>
    some (AFr.al [(0, fr 0), (1, fr 1)], H)⟩⟩)
@[simp] noncomputable def r1 (fr : AFr) (H : AHeap) : ARes :=
  areg (@opi _ (lift (some (fr 1)) H) ⟨fun v7 H =>
    @opi _ (lift (abinR .x .sub v7 (W32 536870912#32)) H) ⟨fun v8 H =>
    @opi _ (lift (aconvR (some .i64) v8) H) ⟨fun v9 H =>
    @opi _ (lift (abinR .x .quo v9 (.int .i64 4)) H) ⟨fun v10 H =>
    @opi _ (lift (some v10) H) ⟨fun v6 H =>
    some (AFr.al [(0, fr 0), (1, fr 1), (6, v6)], H)⟩⟩⟩⟩⟩)
@[simp] noncomputable def r2 (fr : AFr) (H : AHeap) : ARes :=
  areg (@opi _ (lift (some (fr 6)) H) ⟨fun v11 H1 =>
    @opi _ (lift (some (fr 1)) H1) ⟨fun v12 H2 =>
    @opi _ (lift (abinR .x .geq v12 (W32 536870912#32)) H2) ⟨fun v13 H3 =>
    @opi _ (lift (some v13) H3) ⟨fun v14 H4 =>
    @opi _ (@gdi (gw v14 true) ⟨lift (some (fr 6)) H4⟩ H4) ⟨fun v15 H5 =>
    @opi _ (@gdi (gw v14 true) ⟨lift (some (fr 0)) H5⟩ H5) ⟨fun v16 H6 =>
    @opi _ (@gdi (gw v14 true) ⟨lift (anil v16) H6⟩ H6) ⟨fun v17 H7 =>
    @opi _ (@gdi (gw v14 true) ⟨lift (afieldAddrR (some 1) v17) H7⟩ H7) ⟨fun v18 H8 =>
    @opi _ (@gdi (gw v14 true) ⟨lift (aloadR (some none) v18 H8) H8⟩ H8) ⟨fun v19 H9 =>
    @opi _ (@gdi (gw v14 true) ⟨lift (alenR .sl v19) H9⟩ H9) ⟨fun v20 H10 =>
    @opi _ (@gdi (gw v14 true) ⟨lift (abinR .x .lss v15 v20) H10⟩ H10) ⟨fun v21 H11 =>
    @opi _ (lift (apick v14 v21 (.bool false)) H11) ⟨fun v22 H12 =>
    @opi _ (lift (some v11) H12) ⟨fun v4 H13 =>
    @opi _ (lift (some v22) H13) ⟨fun v5 H14 =>
    some (AFr.al [(4, v4), (5, v5)], H14)⟩⟩⟩⟩⟩⟩⟩⟩⟩⟩⟩⟩⟩⟩)
@[simp] noncomputable def body (fr : AFr) (H : AHeap) : ARes :=
  @aseqi (r0 fr H) ⟨fun fr H =>
  @aseqi (r1 fr H) ⟨fun fr H =>
  @aseqi (r2 fr H) ⟨fun fr H =>
  some (.ret, fr, H)⟩⟩⟩
@[simp] def res (fr : AFr) (H : AHeap) : Option (List AV) := res2 (some (fr 4)) (res2 (some (fr 5)) (some []))
end mem_Mem_place
noncomputable def mem_Mem_place (a0 a1 : AV) (H : AHeap) : Option (AV × AHeap) := forget H (afinR mem_Mem_place.res (mem_Mem_place.body (args0 [a0, a1]) H))
noncomputable def mem_Mem_place.spec : List AV → AHeap → Option (AV × AHeap)
  | [a0, a1], H => mem_Mem_place a0 a1 H
  | _, _ => none

/-! (*bauta/mem.Mem).load: function 60 -/
namespace mem_Mem_load
noncomputable def C (s0 : SpecM) : Tab := (Tab.none.add 61 (.ref [false, false] s0))
@[simp] noncomputable def r0 (s0 : SpecM) (fr : AFr) (H : AHeap) : ARes :=
  areg (@opi _ (lift (some (W32 0#32)) H) ⟨fun v4 H =>
    @opi _ (lift (some (.int .i64 0)) H) ⟨fun v5 H =>
    some (AFr.al [(0, fr 0), (1, fr 1)], H)⟩⟩)
@[simp] noncomputable def r1 (s0 : SpecM) (fr : AFr) (H : AHeap) : ARes :=
  areg (@opi _ (lift (some (fr 1)) H) ⟨fun v9 H =>
    @opi _ (lift (abinR .x .rem v9 (W32 4#32)) H) ⟨fun v10 H =>
    @opi _ (lift (abinR .x .neq v10 (W32 0#32)) H) ⟨fun v11 H =>
    some (AFr.al [(0, fr 0), (1, fr 1), (11, v11)], H)⟩⟩⟩)
@[simp] noncomputable def r2 (s0 : SpecM) (fr : AFr) (H : AHeap) : ARes :=
  areg (@opi _ (lift (some (W32 0#32)) H) ⟨fun v4 H =>
    @opi _ (lift (some (.int .i64 50)) H) ⟨fun v5 H =>
    some (AFr.al [(4, v4), (5, v5)], H)⟩⟩)
@[simp] noncomputable def r3 (s0 : SpecM) (fr : AFr) (H : AHeap) : ARes :=
  areg (@opi _ (lift (some (fr 1)) H) ⟨fun v12 H =>
    @opi _ (lift (abinR .x .eql v12 (W32 1073741824#32)) H) ⟨fun v13 H =>
    some (AFr.al [(0, fr 0), (1, fr 1), (13, v13)], H)⟩⟩)
@[simp] noncomputable def r4 (s0 : SpecM) (fr : AFr) (H : AHeap) : ARes :=
  areg (@opi _ (lift (some (fr 0)) H) ⟨fun v14 H1 =>
    @opi _ (lift (anil v14) H1) ⟨fun v15 H2 =>
    @opi _ (lift (afieldAddrR (some 3) v15) H2) ⟨fun v16 H3 =>
    @opi _ (lift (aloadR (some none) v16 H3) H3) ⟨fun v17 H4 =>
    @opi _ (lift (some (fr 0)) H4) ⟨fun v18 H5 =>
    @opi _ (lift (anil v18) H5) ⟨fun v19 H6 =>
    @opi _ (lift (afieldAddrR (some 2) v19) H6) ⟨fun v20 H7 =>
    @opi _ (lift (aloadR (some none) v20 H7) H7) ⟨fun v21 H8 =>
    @opi _ (lift (alenR .sl v21) H8) ⟨fun v22 H9 =>
    @opi _ (lift (abinR .x .eql v17 v22) H9) ⟨fun v23 H10 =>
    some (AFr.al [(0, fr 0), (23, v23)], H10)⟩⟩⟩⟩⟩⟩⟩⟩⟩⟩)
@[simp] noncomputable def r5 (s0 : SpecM) (fr : AFr) (H : AHeap) : ARes :=
  areg (@opi _ (lift (some (W32 0#32)) H) ⟨fun v4 H =>
    @opi _ (lift (some (.int .i64 51)) H) ⟨fun v5 H =>
    some (AFr.al [(4, v4), (5, v5)], H)⟩⟩)
@[simp] noncomputable def r6 (s0 : SpecM) (fr : AFr) (H : AHeap) : ARes :=
  areg (@opi _ (lift (some (fr 0)) H) ⟨fun v24 H =>
    @opi _ (lift (anil v24) H) ⟨fun v25 H =>
    @opi _ (lift (afieldAddrR (some 3) v25) H) ⟨fun v26 H =>
    @opi _ (lift (aloadR (some none) v26 H) H) ⟨fun v27 H =>
    @opi _ (lift (abinR .x .add v27 (.int .i64 1)) H) ⟨fun v28 H =>
    @opi _ (lift (anil v24) H) ⟨fun v29 H =>
    @opi _ (lift (afieldAddrR (some 3) v29) H) ⟨fun v30 H =>
    @opi _ (liftS (astoreR (some 1) v30 v28 H)) ⟨fun _ H =>
    some (AFr.al [(0, fr 0)], H)⟩⟩⟩⟩⟩⟩⟩⟩)
@[simp] noncomputable def r7 (s0 : SpecM) (fr : AFr) (H : AHeap) : ARes :=
  areg (@opi _ (lift (some (fr 0)) H) ⟨fun v31 H1 =>
    @opi _ (lift (anil v31) H1) ⟨fun v32 H2 =>
    @opi _ (lift (afieldAddrR (some 2) v32) H2) ⟨fun v33 H3 =>
    @opi _ (lift (aloadR (some none) v33 H3) H3) ⟨fun v34 H4 =>
    @opi _ (lift (some (fr 0)) H4) ⟨fun v35 H5 =>
    @opi _ (lift (anil v35) H5) ⟨fun v36 H6 =>
    @opi _ (lift (afieldAddrR (some 3) v36) H6) ⟨fun v37 H7 =>
    @opi _ (lift (aloadR (some none) v37 H7) H7) ⟨fun v38 H8 =>
    @opi _ (lift (abinR .x .sub v38 (.int .i64 1)) H8) ⟨fun v39 H9 =>
    @opi _ (lift (aindexAddrR (.sl 1) v34 v39) H9) ⟨fun v40 H10 =>
    @opi _ (lift (aloadR (some none) v40 H10) H10) ⟨fun v41 H11 =>
    @opi _ (lift (some v41) H11) ⟨fun v4 H12 =>
    @opi _ (lift (some (.int .i64 0)) H12) ⟨fun v5 H13 =>
    some (AFr.al [(4, v4), (5, v5)], H13)⟩⟩⟩⟩⟩⟩⟩⟩⟩⟩⟩⟩⟩)
@[simp] noncomputable def r8 (s0 : SpecM) (fr : AFr) (H : AHeap) : ARes :=
  areg (@opi _ (lift (some (fr 0)) H) ⟨fun v43 H =>
    @opi _ (lift (some (fr 1)) H) ⟨fun v44 H =>
    @opi _ (callM [false, false] s0 [[none], [none]] [v43, v44] H) ⟨fun v45 H =>
    @opi _ (lift (some v45) H) ⟨fun v42 H =>
    @opi _ (lift (aextract v42 0) H) ⟨fun v46 H =>
    @opi _ (lift (aextract v42 1) H) ⟨fun v47 H =>
    @opi _ (lift (some v46) H) ⟨fun v6 H =>
    @opi _ (lift (some v47) H) ⟨fun v7 H =>
    some (AFr.al [(0, fr 0), (1, fr 1), (6, v6), (7, v7)], H)⟩⟩⟩⟩⟩⟩⟩⟩)
@[simp] noncomputable def r9 (s0 : SpecM) (fr : AFr) (H : AHeap) : ARes :=
  areg (@opi _ (lift (some (fr 7)) H) ⟨fun v48 H =>
    some (AFr.al [(0, fr 0), (1, fr 1), (6, fr 6), (48, v48)], H)⟩)
@[simp] noncomputable def r10 (s0 : SpecM) (fr : AFr) (H : AHeap) : ARes :=
  areg (@opi _ (lift (some (fr 0)) H) ⟨fun v49 H =>
    @opi _ (lift (anil v49) H) ⟨fun v50 H =>
    @opi _ (lift (afieldAddrR (some 1) v50) H) ⟨fun v51 H =>
    @opi _ (lift (aloadR (some none) v51 H) H) ⟨fun v52 H =>
    @opi _ (lift (some (fr 6)) H) ⟨fun v53 H =>
    @opi _ (lift (aindexAddrR (.sl 1) v52 v53) H) ⟨fun v54 H =>
    @opi _ (lift (aloadR (some none) v54 H) H) ⟨fun v55 H =>
    @opi _ (lift (some v55) H) ⟨fun v4 H =>
    @opi _ (lift (some (.int .i64 0)) H) ⟨fun v5 H =>
    some (AFr.al [(4, v4), (5, v5)], H)⟩⟩⟩⟩⟩⟩⟩⟩⟩)
@[simp] noncomputable def r11 (s0 : SpecM) (fr : AFr) (H : AHeap) : ARes :=
  areg (@opi _ (lift (some (fr 1)) H) ⟨fun v56 H =>
    @opi _ (lift (aconvR (some .i64) v56) H) ⟨fun v57 H =>
    @opi _ (lift (abinR .x .quo v57 (.int .i64 2)) H) ⟨fun v58 H =>
    @opi _ (lift (some v58) H) ⟨fun v8 H =>
    some (AFr.al [(0, fr 0), (8, v8)], H)⟩⟩⟩⟩)
@[simp] noncomputable def r12 (s0 : SpecM) (fr : AFr) (H : AHeap) : ARes :=
  areg (@opi _ (lift (some (fr 8)) H) ⟨fun v59 H =>
    @opi _ (lift (abinR .x .add v59 (.int .i64 1)) H) ⟨fun v60 H =>
    @opi _ (lift (some (fr 0)) H) ⟨fun v61 H =>
    @opi _ (lift (anil v61) H) ⟨fun v62 H =>
    @opi _ (lift (afieldAddrR (some 0) v62) H) ⟨fun v63 H =>
    @opi _ (lift (aloadR (some none) v63 H) H) ⟨fun v64 H =>
    @opi _ (lift (alenR .sl v64) H) ⟨fun v65 H =>
    @opi _ (lift (abinR .x .lss v60 v65) H) ⟨fun v66 H =>
    some (AFr.al [(0, fr 0), (8, fr 8), (66, v66)], H)⟩⟩⟩⟩⟩⟩⟩⟩)
@[simp] noncomputable def r13 (s0 : SpecM) (fr : AFr) (H : AHeap) : ARes :=
  areg (@opi _ (lift (some (fr 0)) H) ⟨fun v67 H1 =>
    @opi _ (lift (anil v67) H1) ⟨fun v68 H2 =>
    @opi _ (lift (afieldAddrR (some 0) v68) H2) ⟨fun v69 H3 =>
    @opi _ (lift (aloadR (some none) v69 H3) H3) ⟨fun v70 H4 =>
    @opi _ (lift (some (fr 8)) H4) ⟨fun v71 H5 =>
    @opi _ (lift (aindexAddrR (.sl 1) v70 v71) H5) ⟨fun v72 H6 =>
    @opi _ (lift (aloadR (some none) v72 H6) H6) ⟨fun v73 H7 =>
    @opi _ (lift (aconvR (some .u32) v73) H7) ⟨fun v74 H8 =>
    @opi _ (lift (some (fr 0)) H8) ⟨fun v75 H9 =>
    @opi _ (lift (anil v75) H9) ⟨fun v76 H10 =>
    @opi _ (lift (afieldAddrR (some 0) v76) H10) ⟨fun v77 H11 =>
    @opi _ (lift (aloadR (some none) v77 H11) H11) ⟨fun v78 H12 =>
    @opi _ (lift (some (fr 8)) H12) ⟨fun v79 H13 =>
    @opi _ (lift (abinR .x .add v79 (.int .i64 1)) H13) ⟨fun v80 H14 =>
    @opi _ (lift (aindexAddrR (.sl 1) v78 v80) H14) ⟨fun v81 H15 =>
    @opi _ (lift (aloadR (some none) v81 H15) H15) ⟨fun v82 H16 =>
    @opi _ (lift (aconvR (some .u32) v82) H16) ⟨fun v83 H17 =>
    @opi _ (lift (abinR .x .shl v83 (W64 16#64)) H17) ⟨fun v84 H18 =>
    @opi _ (lift (abinR .x .or v74 v84) H18) ⟨fun v85 H19 =>
    @opi _ (lift (some v85) H19) ⟨fun v4 H20 =>
    @opi _ (lift (some (.int .i64 0)) H20) ⟨fun v5 H21 =>
    some (AFr.al [(4, v4), (5, v5)], H21)⟩⟩⟩⟩⟩⟩⟩⟩⟩⟩⟩⟩⟩⟩⟩⟩⟩⟩⟩⟩⟩)
@[simp] noncomputable def r14 (s0 : SpecM) (fr : AFr) (H : AHeap) : ARes :=
  areg (@opi _ (lift (some (W32 0#32)) H) ⟨fun v4 H =>
    @opi _ (lift (some (.int .i64 50)) H) ⟨fun v5 H =>
    some (AFr.al [(4, v4), (5, v5)], H)⟩⟩)
@[simp] noncomputable def body (s0 : SpecM) (fr : AFr) (H : AHeap) : ARes :=
  @aseqi (r0 s0 fr H) ⟨fun fr H =>
  @aseqi (@aseqi (r1 s0 fr H) ⟨fun fr H =>
  @acondi (fr 11)
    ⟨@aseqi (r2 s0 fr H) ⟨fun fr H =>
    some (.ret, fr, H)⟩⟩
    ⟨some (.normal, fr, H)⟩⟩) ⟨fun fr H =>
  @aseqi (@aseqi (r3 s0 fr H) ⟨fun fr H =>
  @acondi (fr 13)
    ⟨@aseqi (@aseqi (r4 s0 fr H) ⟨fun fr H =>
    @acondi (fr 23)
      ⟨@aseqi (r5 s0 fr H) ⟨fun fr H =>
      some (.ret, fr, H)⟩⟩
      ⟨some (.normal, fr, H)⟩⟩) ⟨fun fr H =>
    @aseqi (r6 s0 fr H) ⟨fun fr H =>
    @aseqi (r7 s0 fr H) ⟨fun fr H =>
    some (.ret, fr, H)⟩⟩⟩⟩
    ⟨some (.normal, fr, H)⟩⟩) ⟨fun fr H =>
  @aseqi (@aseqi (r8 s0 fr H) ⟨fun fr H =>
  @aseqi (r9 s0 fr H) ⟨fun fr H =>
  @acondi (fr 48)
    ⟨@aseqi (r10 s0 fr H) ⟨fun fr H =>
    some (.ret, fr, H)⟩⟩
    ⟨some (.normal, fr, H)⟩⟩⟩) ⟨fun fr H =>
  @aseqi (@aseqi (r11 s0 fr H) ⟨fun fr H =>
  @aseqi (r12 s0 fr H) ⟨fun fr H =>
  @acondi (fr 66)
    ⟨@aseqi (r13 s0 fr H) ⟨fun fr H =>
    some (.ret, fr, H)⟩⟩
    ⟨some (.normal, fr, H)⟩⟩⟩) ⟨fun fr H =>
  @aseqi (r14 s0 fr H) ⟨fun fr H =>
  some (.ret, fr, H)⟩⟩⟩⟩⟩⟩
@[simp] def res (fr : AFr) (H : AHeap) : Option (List AV) := res2 (some (fr 4)) (res2 (some (fr 5)) (some []))
end mem_Mem_load
noncomputable def mem_Mem_load (a0 a1 : AV) (H : AHeap) : Option (AV × AHeap) := forget H (afinR mem_Mem_load.res (mem_Mem_load.body mem_Mem_place.spec (args0 [a0, a1]) H))
noncomputable def mem_Mem_load.spec : List AV → AHeap → Option (AV × AHeap)
  | [a0, a1], H => mem_Mem_load a0 a1 H
  | _, _ => none

/-! (*bauta/mem.Mem).Load: function 22 -/
namespace mem_Mem_Load
noncomputable def C (s0 : SpecM) : Tab := (Tab.none.add 60 (.ref [false, false] s0))
@[simp] noncomputable def r0 (s0 : SpecM) (fr : AFr) (H : AHeap) : ARes :=
  areg (@opi _ (lift (some (W32 0#32)) H) ⟨fun v4 H =>
    @opi _ (lift (some (.int .i64 0)) H) ⟨fun v5 H =>
    some (AFr.al [(0, fr 0), (1, fr 1)], H)⟩⟩)
@[simp] noncomputable def r1 (s0 : SpecM) (fr : AFr) (H : AHeap) : ARes :=
  areg (@opi _ (lift (some (fr 0)) H) ⟨fun v9 H =>
    @opi _ (lift (some (fr 1)) H) ⟨fun v10 H =>
    @opi _ (callM [false, false] s0 [[none], [none]] [v9, v10] H) ⟨fun v11 H =>
    @opi _ (lift (some v11) H) ⟨fun v8 H =>
    @opi _ (lift (aextract v8 0) H) ⟨fun v12 H =>
    @opi _ (lift (aextract v8 1) H) ⟨fun v13 H =>
    @opi _ (lift (some v12) H) ⟨fun v6 H =>
    @opi _ (lift (some v13) H) ⟨fun v7 H =>
    some (AFr.al [(0, fr 0), (6, v6), (7, v7)], H)⟩⟩⟩⟩⟩⟩⟩⟩)
@[simp] noncomputable def r2 (s0 : SpecM) (fr : AFr) (H : AHeap) : ARes :=
  areg (@opi _ (lift (some (fr 7)) H) ⟨fun v14 H =>
    @opi _ (lift (abinR .x .eql v14 (.int .i64 0)) H) ⟨fun v15 H =>
    some (AFr.al [(0, fr 0), (6, fr 6), (7, fr 7), (15, v15)], H)⟩⟩)
@[simp] noncomputable def r3 (s0 : SpecM) (fr : AFr) (H : AHeap) : ARes :=
  areg (@opi _ (lift (some (fr 0)) H) ⟨fun v16 H =>
    @opi _ (lift (some (fr 6)) H) ⟨fun v17 H =>
    @opi _ (lift (anil v16) H) ⟨fun v18 H =>
    @opi _ (lift (afieldAddrR (some 4) v18) H) ⟨fun v19 H =>
    @opi _ (liftS (astoreR (some 1) v19 v17 H)) ⟨fun _ H =>
    some (AFr.al [(6, fr 6), (7, fr 7)], H)⟩⟩⟩⟩⟩)
@[simp] noncomputable def r4 (s0 : SpecM) (fr : AFr) (H : AHeap) : ARes :=
  areg (@opi _ (lift (some (fr 6)) H) ⟨fun v20 H =>
    @opi _ (lift (some (fr 7)) H) ⟨fun v21 H =>
    @opi _ (lift (some v20) H) ⟨fun v4 H =>
    @opi _ (lift (some v21) H) ⟨fun v5 H =>
    some (AFr.al [(4, v4), (5, v5)], H)⟩⟩⟩⟩)
@[simp] noncomputable def body (s0 : SpecM) (fr : AFr) (H : AHeap) : ARes :=
  @aseqi (r0 s0 fr H) ⟨fun fr H =>
  @aseqi (r1 s0 fr H) ⟨fun fr H =>
  @aseqi (@aseqi (r2 s0 fr H) ⟨fun fr H =>
  @acondi (fr 15)
    ⟨r3 s0 fr H⟩
    ⟨some (.normal, fr, H)⟩⟩) ⟨fun fr H =>
  @aseqi (r4 s0 fr H) ⟨fun fr H =>
  some (.ret, fr, H)⟩⟩⟩⟩
@[simp] def res (fr : AFr) (H : AHeap) : Option (List AV) := res2 (some (fr 4)) (res2 (some (fr 5)) (some []))
end mem_Mem_Load
noncomputable def mem_Mem_Load (a0 a1 : AV) (H : AHeap) : Option (AV × AHeap) := forget H (afinR mem_Mem_Load.res (mem_Mem_Load.body mem_Mem_load.spec (args0 [a0, a1]) H))
noncomputable def mem_Mem_Load.spec : List AV → AHeap → Option (AV × AHeap)
  | [a0, a1], H => mem_Mem_Load a0 a1 H
  | _, _ => none

/-! (*bauta/mem.Mem).Bus: function 23 -/
namespace mem_Mem_Bus
noncomputable def C : Tab := Tab.none
@[simp] noncomputable def r0 (fr : AFr) (H : AHeap) : ARes :=
  areg (@opi _ (lift (some (W32 0#32)) H) ⟨fun v2 H =>
    some (AFr.al [(0, fr 0)], H)⟩)
@[simp] noncomputable def r1 (fr : AFr) (H : AHeap) : ARes :=
  areg (@opi _ (lift (some (fr 0)) H) ⟨fun v3 H =>
    @opi _ (lift (anil v3) H) ⟨fun v4 H =>
    @opi _ (lift (afieldAddrR (some 4) v4) H) ⟨fun v5 H =>
    @opi _ (lift (aloadR (some none) v5 H) H) ⟨fun v6 H =>
    @opi _ (lift (some v6) H) ⟨fun v2 H =>
    some (AFr.al [(2, v2)], H)⟩⟩⟩⟩⟩)
@[simp] noncomputable def body (fr : AFr) (H : AHeap) : ARes :=
  @aseqi (r0 fr H) ⟨fun fr H =>
  @aseqi (r1 fr H) ⟨fun fr H =>
  some (.ret, fr, H)⟩⟩
@[simp] def res (fr : AFr) (H : AHeap) : Option (List AV) := res2 (some (fr 2)) (some [])
end mem_Mem_Bus
noncomputable def mem_Mem_Bus (a0 : AV) (H : AHeap) : Option (AV × AHeap) := forget H (afinR mem_Mem_Bus.res (mem_Mem_Bus.body (args0 [a0]) H))
noncomputable def mem_Mem_Bus.spec : List AV → AHeap → Option (AV × AHeap)
  | [a0], H => mem_Mem_Bus a0 H
  | _, _ => none

/-! (*bauta/mem.Mem).Drawn: function 24 -/
namespace mem_Mem_Drawn
noncomputable def C : Tab := Tab.none
@[simp] noncomputable def r0 (fr : AFr) (H : AHeap) : ARes :=
  areg (@opi _ (lift (some (.int .i64 0)) H) ⟨fun v2 H =>
    some (AFr.al [(0, fr 0)], H)⟩)
@[simp] noncomputable def r1 (fr : AFr) (H : AHeap) : ARes :=
  areg (@opi _ (lift (some (fr 0)) H) ⟨fun v3 H =>
    @opi _ (lift (anil v3) H) ⟨fun v4 H =>
    @opi _ (lift (afieldAddrR (some 3) v4) H) ⟨fun v5 H =>
    @opi _ (lift (aloadR (some none) v5 H) H) ⟨fun v6 H =>
    @opi _ (lift (some v6) H) ⟨fun v2 H =>
    some (AFr.al [(2, v2)], H)⟩⟩⟩⟩⟩)
@[simp] noncomputable def body (fr : AFr) (H : AHeap) : ARes :=
  @aseqi (r0 fr H) ⟨fun fr H =>
  @aseqi (r1 fr H) ⟨fun fr H =>
  some (.ret, fr, H)⟩⟩
@[simp] def res (fr : AFr) (H : AHeap) : Option (List AV) := res2 (some (fr 2)) (some [])
end mem_Mem_Drawn
noncomputable def mem_Mem_Drawn (a0 : AV) (H : AHeap) : Option (AV × AHeap) := forget H (afinR mem_Mem_Drawn.res (mem_Mem_Drawn.body (args0 [a0]) H))
noncomputable def mem_Mem_Drawn.spec : List AV → AHeap → Option (AV × AHeap)
  | [a0], H => mem_Mem_Drawn a0 H
  | _, _ => none

/-! (*bauta/mem.Mem).Store: function 30 -/
namespace mem_Mem_Store
noncomputable def C (s0 : SpecM) : Tab := (Tab.none.add 61 (.ref [false, false] s0))
@[simp] noncomputable def r0 (s0 : SpecM) (fr : AFr) (H : AHeap) : ARes :=
  areg (@opi _ (lift (some (.int .i64 0)) H) ⟨fun v6 H =>
    some (AFr.al [(0, fr 0), (1, fr 1), (2, fr 2)], H)⟩)
@[simp] noncomputable def r1 (s0 : SpecM) (fr : AFr) (H : AHeap) : ARes :=
  areg (@opi _ (lift (some (fr 0)) H) ⟨fun v10 H =>
    @opi _ (lift (some (fr 1)) H) ⟨fun v11 H =>
    @opi _ (callM [false, false] s0 [[none], [none]] [v10, v11] H) ⟨fun v12 H =>
    @opi _ (lift (some v12) H) ⟨fun v9 H =>
    @opi _ (lift (aextract v9 0) H) ⟨fun v13 H =>
    @opi _ (lift (aextract v9 1) H) ⟨fun v14 H =>
    @opi _ (lift (some v13) H) ⟨fun v7 H =>
    @opi _ (lift (some v14) H) ⟨fun v8 H =>
    some (AFr.al [(0, fr 0), (1, fr 1), (2, fr 2), (7, v7), (8, v8)], H)⟩⟩⟩⟩⟩⟩⟩⟩)
@[simp] noncomputable def r2 (s0 : SpecM) (fr : AFr) (H : AHeap) : ARes :=
  areg (@opi _ (lift (some (fr 8)) H) ⟨fun v15 H =>
    @opi _ (lift (aun .not v15) H) ⟨fun v16 H =>
    @opi _ (lift (some v16) H) ⟨fun v17 H =>
    @opi _ (@gdi (gw v17 false) ⟨lift (some (fr 1)) H⟩ H) ⟨fun v18 H =>
    @opi _ (@gdi (gw v17 false) ⟨lift (abinR .x .rem v18 (W32 4#32)) H⟩ H) ⟨fun v19 H =>
    @opi _ (@gdi (gw v17 false) ⟨lift (abinR .x .neq v19 (W32 0#32)) H⟩ H) ⟨fun v20 H =>
    @opi _ (lift (apick v17 (.bool true) v20) H) ⟨fun v21 H =>
    some (AFr.al [(0, fr 0), (2, fr 2), (7, fr 7), (21, v21)], H)⟩⟩⟩⟩⟩⟩⟩)
@[simp] noncomputable def r3 (s0 : SpecM) (fr : AFr) (H : AHeap) : ARes :=
  areg (@opi _ (lift (some (.int .i64 50)) H) ⟨fun v6 H =>
    some (AFr.al [(6, v6)], H)⟩)
@[simp] noncomputable def r4 (s0 : SpecM) (fr : AFr) (H : AHeap) : ARes :=
  areg (@opi _ (lift (some (fr 0)) H) ⟨fun v22 H =>
    @opi _ (lift (anil v22) H) ⟨fun v23 H =>
    @opi _ (lift (afieldAddrR (some 1) v23) H) ⟨fun v24 H =>
    @opi _ (lift (aloadR (some none) v24 H) H) ⟨fun v25 H =>
    @opi _ (lift (some (fr 7)) H) ⟨fun v26 H =>
    @opi _ (lift (some (fr 0)) H) ⟨fun v27 H =>
    @opi _ (lift (some (fr 2)) H) ⟨fun v28 H =>
    @opi _ (lift (some (fr 2)) H) ⟨fun v29 H =>
    @opi _ (lift (aindexAddrR (.sl 1) v25 v26) H) ⟨fun v30 H =>
    @opi _ (liftS (astoreR (some 1) v30 v28 H)) ⟨fun _ H =>
    @opi _ (lift (anil v27) H) ⟨fun v31 H =>
    @opi _ (lift (afieldAddrR (some 4) v31) H) ⟨fun v32 H =>
    @opi _ (liftS (astoreR (some 1) v32 v29 H)) ⟨fun _ H =>
    some (AFr.al [], H)⟩⟩⟩⟩⟩⟩⟩⟩⟩⟩⟩⟩⟩)
@[simp] noncomputable def r5 (s0 : SpecM) (fr : AFr) (H : AHeap) : ARes :=
  areg (@opi _ (lift (some (.int .i64 0)) H) ⟨fun v6 H =>
    some (AFr.al [(6, v6)], H)⟩)
@[simp] noncomputable def body (s0 : SpecM) (fr : AFr) (H : AHeap) : ARes :=
  @aseqi (r0 s0 fr H) ⟨fun fr H =>
  @aseqi (r1 s0 fr H) ⟨fun fr H =>
  @aseqi (@aseqi (r2 s0 fr H) ⟨fun fr H =>
  @acondi (fr 21)
    ⟨@aseqi (r3 s0 fr H) ⟨fun fr H =>
    some (.ret, fr, H)⟩⟩
    ⟨some (.normal, fr, H)⟩⟩) ⟨fun fr H =>
  @aseqi (r4 s0 fr H) ⟨fun fr H =>
  @aseqi (r5 s0 fr H) ⟨fun fr H =>
  some (.ret, fr, H)⟩⟩⟩⟩⟩
@[simp] def res (fr : AFr) (H : AHeap) : Option (List AV) := res2 (some (fr 6)) (some [])
end mem_Mem_Store
noncomputable def mem_Mem_Store (a0 a1 a2 : AV) (H : AHeap) : Option (AV × AHeap) := forget H (afinR mem_Mem_Store.res (mem_Mem_Store.body mem_Mem_place.spec (args0 [a0, a1, a2]) H))
noncomputable def mem_Mem_Store.spec : List AV → AHeap → Option (AV × AHeap)
  | [a0, a1, a2], H => mem_Mem_Store a0 a1 a2 H
  | _, _ => none

/-! bauta/bautalaw05.lives: function 25 -/
namespace law05_lives
noncomputable def C (s0 : SpecM) (s1 : SpecM) (s2 : SpecM) (s3 : SpecM) (s4 : SpecM) : Tab := (((((Tab.none.add 21 (.ref [true, false, true] s0)).add 30 (.ref [false, false, false] s1)).add 22 (.ref [false, false] s2)).add 23 (.ref [false] s3)).add 24 (.ref [false] s4))
@[simp] noncomputable def r0 (s0 : SpecM) (s1 : SpecM) (s2 : SpecM) (s3 : SpecM) (s4 : SpecM) (fr : AFr) (H : AHeap) : ARes :=
  areg (@opi _ (lift (some (.bool false)) H) ⟨fun v0 H =>
    some (AFr.al [], H)⟩)
@[simp] noncomputable def r1 (s0 : SpecM) (s1 : SpecM) (s2 : SpecM) (s3 : SpecM) (s4 : SpecM) (fr : AFr) (H : AHeap) : ARes :=
  areg (@opi _ (abuildSliceR (some ⟨T.ty_uint32, 1, 4, [(W32 0#32)]⟩) 1 [(0, (W32 9#32))] H) ⟨fun v6 H =>
    @opi _ (callM [true, false, true] s0 [[some 1], [none], [some 1]] [.nils, (.int .i64 4), v6] H) ⟨fun v7 H =>
    @opi _ (lift (some v7) H) ⟨fun v1 H =>
    some (AFr.al [(1, v1)], H)⟩⟩⟩)
@[simp] noncomputable def r2 (s0 : SpecM) (s1 : SpecM) (s2 : SpecM) (s3 : SpecM) (s4 : SpecM) (fr : AFr) (H : AHeap) : ARes :=
  areg (@opi _ (lift (some (fr 1)) H) ⟨fun v8 H =>
    @opi _ (lift (abinR .p .eql v8 .nilp) H) ⟨fun v9 H =>
    @opi _ (lift (some v9) H) ⟨fun v10 H =>
    @opi _ (@gdi (gw v10 false) ⟨lift (some (fr 1)) H⟩ H) ⟨fun v11 H =>
    @opi _ (@gdi (gw v10 false) ⟨callM [false, false, false] s1 [[none], [none], [none]] [v11, (W32 536870916#32), (W32 7#32)] H⟩ H) ⟨fun v12 H =>
    @opi _ (@gdi (gw v10 false) ⟨lift (abinR .x .neq v12 (.int .i64 0)) H⟩ H) ⟨fun v13 H =>
    @opi _ (lift (apick v10 (.bool true) v13) H) ⟨fun v14 H =>
    some (AFr.al [(1, fr 1), (14, v14)], H)⟩⟩⟩⟩⟩⟩⟩)
@[simp] noncomputable def r3 (s0 : SpecM) (s1 : SpecM) (s2 : SpecM) (s3 : SpecM) (s4 : SpecM) (fr : AFr) (H : AHeap) : ARes :=
  areg (@opi _ (lift (some (.bool false)) H) ⟨fun v0 H =>
    some (AFr.al [(0, v0)], H)⟩)
@[simp] noncomputable def r4 (s0 : SpecM) (s1 : SpecM) (s2 : SpecM) (s3 : SpecM) (s4 : SpecM) (fr : AFr) (H : AHeap) : ARes :=
  areg (@opi _ (lift (some (fr 1)) H) ⟨fun v16 H =>
    @opi _ (callM [false, false] s2 [[none], [none]] [v16, (W32 536870916#32)] H) ⟨fun v17 H =>
    @opi _ (lift (some v17) H) ⟨fun v15 H =>
    @opi _ (lift (aextract v15 0) H) ⟨fun v18 H =>
    @opi _ (lift (aextract v15 1) H) ⟨fun v19 H =>
    @opi _ (lift (some v18) H) ⟨fun v2 H =>
    @opi _ (lift (some v19) H) ⟨fun v3 H =>
    some (AFr.al [(1, fr 1), (2, v2), (3, v3)], H)⟩⟩⟩⟩⟩⟩⟩)
@[simp] noncomputable def r5 (s0 : SpecM) (s1 : SpecM) (s2 : SpecM) (s3 : SpecM) (s4 : SpecM) (fr : AFr) (H : AHeap) : ARes :=
  areg (@opi _ (lift (some (fr 1)) H) ⟨fun v21 H =>
    @opi _ (callM [false, false] s2 [[none], [none]] [v21, (W32 1073741824#32)] H) ⟨fun v22 H =>
    @opi _ (lift (some v22) H) ⟨fun v20 H =>
    @opi _ (lift (aextract v20 0) H) ⟨fun v23 H =>
    @opi _ (lift (aextract v20 1) H) ⟨fun v24 H =>
    @opi _ (lift (some v23) H) ⟨fun v4 H =>
    @opi _ (lift (some v24) H) ⟨fun v5 H =>
    some (AFr.al [(1, fr 1), (2, fr 2), (3, fr 3), (4, v4), (5, v5)], H)⟩⟩⟩⟩⟩⟩⟩)
@[simp] noncomputable def r6 (s0 : SpecM) (s1 : SpecM) (s2 : SpecM) (s3 : SpecM) (s4 : SpecM) (fr : AFr) (H : AHeap) : ARes :=
  areg (@opi _ (lift (some (fr 2)) H) ⟨fun v25 H =>
    @opi _ (lift (abinR .x .eql v25 (W32 7#32)) H) ⟨fun v26 H =>
    @opi _ (lift (some v26) H) ⟨fun v27 H =>
    @opi _ (@gdi (gw v27 true) ⟨lift (some (fr 3)) H⟩ H) ⟨fun v28 H =>
    @opi _ (@gdi (gw v27 true) ⟨lift (abinR .x .eql v28 (.int .i64 0)) H⟩ H) ⟨fun v29 H =>
    @opi _ (lift (apick v27 v29 (.bool false)) H) ⟨fun v30 H =>
    @opi _ (lift (some v30) H) ⟨fun v31 H =>
    @opi _ (@gdi (gw v31 true) ⟨lift (some (fr 4)) H⟩ H) ⟨fun v32 H =>
    @opi _ (@gdi (gw v31 true) ⟨lift (abinR .x .eql v32 (W32 9#32)) H⟩ H) ⟨fun v33 H =>
    @opi _ (lift (apick v31 v33 (.bool false)) H) ⟨fun v34 H =>
    @opi _ (lift (some v34) H) ⟨fun v35 H =>
    @opi _ (@gdi (gw v35 true) ⟨lift (some (fr 5)) H⟩ H) ⟨fun v36 H =>
    @opi _ (@gdi (gw v35 true) ⟨lift (abinR .x .eql v36 (.int .i64 0)) H⟩ H) ⟨fun v37 H =>
    @opi _ (lift (apick v35 v37 (.bool false)) H) ⟨fun v38 H =>
    @opi _ (lift (some v38) H) ⟨fun v39 H =>
    @opi _ (@gdi (gw v39 true) ⟨lift (some (fr 1)) H⟩ H) ⟨fun v40 H =>
    @opi _ (@gdi (gw v39 true) ⟨callM [false] s3 [[none]] [v40] H⟩ H) ⟨fun v41 H =>
    @opi _ (@gdi (gw v39 true) ⟨lift (abinR .x .eql v41 (W32 9#32)) H⟩ H) ⟨fun v42 H =>
    @opi _ (lift (apick v39 v42 (.bool false)) H) ⟨fun v43 H =>
    @opi _ (lift (some v43) H) ⟨fun v44 H =>
    @opi _ (@gdi (gw v44 true) ⟨lift (some (fr 1)) H⟩ H) ⟨fun v45 H =>
    @opi _ (@gdi (gw v44 true) ⟨callM [false] s4 [[none]] [v45] H⟩ H) ⟨fun v46 H =>
    @opi _ (@gdi (gw v44 true) ⟨lift (abinR .x .eql v46 (.int .i64 1)) H⟩ H) ⟨fun v47 H =>
    @opi _ (lift (apick v44 v47 (.bool false)) H) ⟨fun v48 H =>
    @opi _ (lift (some v48) H) ⟨fun v0 H =>
    some (AFr.al [(0, v0)], H)⟩⟩⟩⟩⟩⟩⟩⟩⟩⟩⟩⟩⟩⟩⟩⟩⟩⟩⟩⟩⟩⟩⟩⟩⟩)
@[simp] noncomputable def body (s0 : SpecM) (s1 : SpecM) (s2 : SpecM) (s3 : SpecM) (s4 : SpecM) (fr : AFr) (H : AHeap) : ARes :=
  @aseqi (r0 s0 s1 s2 s3 s4 fr H) ⟨fun fr H =>
  @aseqi (r1 s0 s1 s2 s3 s4 fr H) ⟨fun fr H =>
  @aseqi (@aseqi (r2 s0 s1 s2 s3 s4 fr H) ⟨fun fr H =>
  @acondi (fr 14)
    ⟨@aseqi (r3 s0 s1 s2 s3 s4 fr H) ⟨fun fr H =>
    some (.ret, fr, H)⟩⟩
    ⟨some (.normal, fr, H)⟩⟩) ⟨fun fr H =>
  @aseqi (r4 s0 s1 s2 s3 s4 fr H) ⟨fun fr H =>
  @aseqi (r5 s0 s1 s2 s3 s4 fr H) ⟨fun fr H =>
  @aseqi (r6 s0 s1 s2 s3 s4 fr H) ⟨fun fr H =>
  some (.ret, fr, H)⟩⟩⟩⟩⟩⟩
@[simp] def res (fr : AFr) (H : AHeap) : Option (List AV) := res2 (some (fr 0)) (some [])
end law05_lives
noncomputable def law05_lives : Option AV := closeUpR (some [[none]]) (afinR law05_lives.res (law05_lives.body mem_New.spec mem_Mem_Store.spec mem_Mem_Load.spec mem_Mem_Bus.spec mem_Mem_Drawn.spec (args0 []) AHeap.empty))
noncomputable def law05_lives.spec : List AV → Option AV
  | [] => law05_lives
  | _ => none

/-! bauta/bautalaw05.MemTape: function 4 -/
namespace law05_MemTape
noncomputable def C (s0 : SpecP) (s1 : SpecM) (s2 : SpecM) (s3 : SpecM) (s4 : SpecM) (s5 : SpecP) : Tab := ((((((Tab.none.add 20 (.pure false s0)).add 21 (.ref [true, false, true] s1)).add 22 (.ref [false, false] s2)).add 23 (.ref [false] s3)).add 24 (.ref [false] s4)).add 25 (.pure false s5))
@[simp] noncomputable def r0 (s0 : SpecP) (s1 : SpecM) (s2 : SpecM) (s3 : SpecM) (s4 : SpecM) (s5 : SpecP) (fr : AFr) (H : AHeap) : ARes :=
  areg (@opi _ (lift (some (.bool false)) H) ⟨fun v4 H =>
    some (AFr.al [(0, fr 0), (1, fr 1)], H)⟩)
@[simp] noncomputable def r1 (s0 : SpecP) (s1 : SpecM) (s2 : SpecM) (s3 : SpecM) (s4 : SpecM) (s5 : SpecP) (fr : AFr) (H : AHeap) : ARes :=
  areg (@opi _ (lift (some (fr 0)) H) ⟨fun v10 H =>
    @opi _ (callP false s0 [[some 1], [some 1]] [.nils, v10] H) ⟨fun v11 H =>
    @opi _ (lift (some v11) H) ⟨fun v9 H =>
    @opi _ (lift (aextract v9 0) H) ⟨fun v12 H =>
    @opi _ (lift (aextract v9 1) H) ⟨fun v13 H =>
    @opi _ (lift (some v13) H) ⟨fun v0 H =>
    some (AFr.al [(0, v0), (1, fr 1)], H)⟩⟩⟩⟩⟩⟩)
@[simp] noncomputable def r2 (s0 : SpecP) (s1 : SpecM) (s2 : SpecM) (s3 : SpecM) (s4 : SpecM) (s5 : SpecP) (fr : AFr) (H : AHeap) : ARes :=
  areg (@opi _ (abuildSliceR (some ⟨T.ty_uint32, 1, 4, [(W32 0#32)]⟩) 0 [] H) ⟨fun v14 H =>
    @opi _ (lift (some (fr 0)) H) ⟨fun v15 H =>
    @opi _ (aappendR (some ⟨T.ty_uint32, 1, 4, [(W32 0#32)]⟩) v14 v15 H) ⟨fun v16 H =>
    @opi _ (callM [true, false, true] s1 [[some 1], [none], [some 1]] [.nils, (.int .i64 1), v16] H) ⟨fun v17 H =>
    @opi _ (lift (some v17) H) ⟨fun v5 H =>
    some (AFr.al [(0, fr 0), (1, fr 1), (5, v5)], H)⟩⟩⟩⟩⟩)
@[simp] noncomputable def r3 (s0 : SpecP) (s1 : SpecM) (s2 : SpecM) (s3 : SpecM) (s4 : SpecM) (s5 : SpecP) (fr : AFr) (H : AHeap) : ARes :=
  areg (@opi _ (lift (some (fr 5)) H) ⟨fun v18 H =>
    @opi _ (lift (abinR .p .eql v18 .nilp) H) ⟨fun v19 H =>
    some (AFr.al [(0, fr 0), (1, fr 1), (5, fr 5), (19, v19)], H)⟩⟩)
@[simp] noncomputable def r4 (s0 : SpecP) (s1 : SpecM) (s2 : SpecM) (s3 : SpecM) (s4 : SpecM) (s5 : SpecP) (fr : AFr) (H : AHeap) : ARes :=
  areg (@opi _ (lift (some (.bool false)) H) ⟨fun v4 H =>
    some (AFr.al [(4, v4)], H)⟩)
@[simp] noncomputable def r5 (s0 : SpecP) (s1 : SpecM) (s2 : SpecM) (s3 : SpecM) (s4 : SpecM) (s5 : SpecP) (fr : AFr) (H : AHeap) : ARes :=
  areg (@opi _ (lift (some (.int .i64 0)) H) ⟨fun v6 H =>
    some (AFr.al [(0, fr 0), (1, fr 1), (5, fr 5), (6, v6)], H)⟩)
@[simp] noncomputable def r6 (s0 : SpecP) (s1 : SpecM) (s2 : SpecM) (s3 : SpecM) (s4 : SpecM) (s5 : SpecP) (fr : AFr) (H : AHeap) : ARes :=
  areg (@opi _ (lift (some (fr 6)) H) ⟨fun v20 H =>
    @opi _ (lift (some (fr 0)) H) ⟨fun v21 H =>
    @opi _ (lift (alenR .sl v21) H) ⟨fun v22 H =>
    @opi _ (lift (some (fr 1)) H) ⟨fun v23 H =>
    @opi _ (lift (abinR .x .rem v23 (W8 4#8)) H) ⟨fun v24 H =>
    @opi _ (lift (aconvR (some .i64) v24) H) ⟨fun v25 H =>
    @opi _ (lift (abinR .x .add v22 v25) H) ⟨fun v26 H =>
    @opi _ (lift (abinR .x .lss v20 v26) H) ⟨fun v27 H =>
    some (AFr.al [(0, fr 0), (1, fr 1), (5, fr 5), (6, fr 6), (27, v27)], H)⟩⟩⟩⟩⟩⟩⟩⟩)
@[simp] noncomputable def r8 (s0 : SpecP) (s1 : SpecM) (s2 : SpecM) (s3 : SpecM) (s4 : SpecM) (s5 : SpecP) (fr : AFr) (H : AHeap) : ARes :=
  areg (@opi _ (lift (some (fr 5)) H) ⟨fun v31 H =>
    @opi _ (callM [false, false] s2 [[none], [none]] [v31, (W32 1073741824#32)] H) ⟨fun v32 H =>
    @opi _ (lift (some v32) H) ⟨fun v30 H =>
    @opi _ (lift (aextract v30 0) H) ⟨fun v33 H =>
    @opi _ (lift (aextract v30 1) H) ⟨fun v34 H =>
    @opi _ (lift (some v33) H) ⟨fun v7 H =>
    @opi _ (lift (some v34) H) ⟨fun v8 H =>
    some (AFr.al [(0, fr 0), (1, fr 1), (5, fr 5), (6, fr 6), (7, v7), (8, v8)], H)⟩⟩⟩⟩⟩⟩⟩)
@[simp] noncomputable def r9 (s0 : SpecP) (s1 : SpecM) (s2 : SpecM) (s3 : SpecM) (s4 : SpecM) (s5 : SpecP) (fr : AFr) (H : AHeap) : ARes :=
  areg (@opi _ (lift (some (fr 6)) H) ⟨fun v35 H =>
    @opi _ (lift (some (fr 0)) H) ⟨fun v36 H =>
    @opi _ (lift (alenR .sl v36) H) ⟨fun v37 H =>
    @opi _ (lift (abinR .x .lss v35 v37) H) ⟨fun v38 H =>
    some (AFr.al [(0, fr 0), (1, fr 1), (5, fr 5), (6, fr 6), (7, fr 7), (8, fr 8), (38, v38)], H)⟩⟩⟩⟩)
@[simp] noncomputable def r10 (s0 : SpecP) (s1 : SpecM) (s2 : SpecM) (s3 : SpecM) (s4 : SpecM) (s5 : SpecP) (fr : AFr) (H : AHeap) : ARes :=
  areg (@opi _ (lift (some (fr 7)) H) ⟨fun v39 H =>
    @opi _ (lift (some (fr 0)) H) ⟨fun v40 H =>
    @opi _ (lift (some (fr 6)) H) ⟨fun v41 H =>
    @opi _ (lift (aindexAddrR (.sl 1) v40 v41) H) ⟨fun v42 H =>
    @opi _ (lift (aloadR (some none) v42 H) H) ⟨fun v43 H =>
    @opi _ (lift (abinR .x .neq v39 v43) H) ⟨fun v44 H =>
    @opi _ (lift (some v44) H) ⟨fun v45 H =>
    @opi _ (@gdi (gw v45 false) ⟨lift (some (fr 8)) H⟩ H) ⟨fun v46 H =>
    @opi _ (@gdi (gw v45 false) ⟨lift (abinR .x .neq v46 (.int .i64 0)) H⟩ H) ⟨fun v47 H =>
    @opi _ (lift (apick v45 (.bool true) v47) H) ⟨fun v48 H =>
    @opi _ (lift (some v48) H) ⟨fun v49 H =>
    @opi _ (@gdi (gw v49 false) ⟨lift (some (fr 5)) H⟩ H) ⟨fun v50 H =>
    @opi _ (@gdi (gw v49 false) ⟨callM [false] s3 [[none]] [v50] H⟩ H) ⟨fun v51 H =>
    @opi _ (@gdi (gw v49 false) ⟨lift (some (fr 7)) H⟩ H) ⟨fun v52 H =>
    @opi _ (@gdi (gw v49 false) ⟨lift (abinR .x .neq v51 v52) H⟩ H) ⟨fun v53 H =>
    @opi _ (lift (apick v49 (.bool true) v53) H) ⟨fun v54 H =>
    @opi _ (lift (some v54) H) ⟨fun v55 H =>
    @opi _ (@gdi (gw v55 false) ⟨lift (some (fr 5)) H⟩ H) ⟨fun v56 H =>
    @opi _ (@gdi (gw v55 false) ⟨callM [false] s4 [[none]] [v56] H⟩ H) ⟨fun v57 H =>
    @opi _ (@gdi (gw v55 false) ⟨lift (some (fr 6)) H⟩ H) ⟨fun v58 H =>
    @opi _ (@gdi (gw v55 false) ⟨lift (abinR .x .add v58 (.int .i64 1)) H⟩ H) ⟨fun v59 H =>
    @opi _ (@gdi (gw v55 false) ⟨lift (abinR .x .neq v57 v59) H⟩ H) ⟨fun v60 H =>
    @opi _ (lift (apick v55 (.bool true) v60) H) ⟨fun v61 H =>
    some (AFr.al [(0, fr 0), (1, fr 1), (5, fr 5), (6, fr 6), (61, v61)], H)⟩⟩⟩⟩⟩⟩⟩⟩⟩⟩⟩⟩⟩⟩⟩⟩⟩⟩⟩⟩⟩⟩⟩)
@[simp] noncomputable def r11 (s0 : SpecP) (s1 : SpecM) (s2 : SpecM) (s3 : SpecM) (s4 : SpecM) (s5 : SpecP) (fr : AFr) (H : AHeap) : ARes :=
  areg (@opi _ (lift (some (.bool false)) H) ⟨fun v4 H =>
    some (AFr.al [(4, v4)], H)⟩)
@[simp] noncomputable def r12 (s0 : SpecP) (s1 : SpecM) (s2 : SpecM) (s3 : SpecM) (s4 : SpecM) (s5 : SpecP) (fr : AFr) (H : AHeap) : ARes :=
  areg (@opi _ (lift (some (fr 7)) H) ⟨fun v62 H =>
    @opi _ (lift (abinR .x .neq v62 (W32 0#32)) H) ⟨fun v63 H =>
    @opi _ (lift (some v63) H) ⟨fun v64 H =>
    @opi _ (@gdi (gw v64 false) ⟨lift (some (fr 8)) H⟩ H) ⟨fun v65 H =>
    @opi _ (@gdi (gw v64 false) ⟨lift (abinR .x .neq v65 (.int .i64 51)) H⟩ H) ⟨fun v66 H =>
    @opi _ (lift (apick v64 (.bool true) v66) H) ⟨fun v67 H =>
    @opi _ (lift (some v67) H) ⟨fun v68 H =>
    @opi _ (@gdi (gw v68 false) ⟨lift (some (fr 5)) H⟩ H) ⟨fun v69 H =>
    @opi _ (@gdi (gw v68 false) ⟨callM [false] s4 [[none]] [v69] H⟩ H) ⟨fun v70 H =>
    @opi _ (@gdi (gw v68 false) ⟨lift (some (fr 0)) H⟩ H) ⟨fun v71 H =>
    @opi _ (@gdi (gw v68 false) ⟨lift (alenR .sl v71) H⟩ H) ⟨fun v72 H =>
    @opi _ (@gdi (gw v68 false) ⟨lift (abinR .x .neq v70 v72) H⟩ H) ⟨fun v73 H =>
    @opi _ (lift (apick v68 (.bool true) v73) H) ⟨fun v74 H =>
    some (AFr.al [(0, fr 0), (1, fr 1), (5, fr 5), (6, fr 6), (74, v74)], H)⟩⟩⟩⟩⟩⟩⟩⟩⟩⟩⟩⟩⟩)
@[simp] noncomputable def r13 (s0 : SpecP) (s1 : SpecM) (s2 : SpecM) (s3 : SpecM) (s4 : SpecM) (s5 : SpecP) (fr : AFr) (H : AHeap) : ARes :=
  areg (@opi _ (lift (some (.bool false)) H) ⟨fun v4 H =>
    some (AFr.al [(4, v4)], H)⟩)
@[simp] noncomputable def r7 (s0 : SpecP) (s1 : SpecM) (s2 : SpecM) (s3 : SpecM) (s4 : SpecM) (s5 : SpecP) (fr : AFr) (H : AHeap) : ARes :=
  areg (@opi _ (lift (some (fr 6)) H) ⟨fun v28 H =>
    @opi _ (lift (abinR .x .add v28 (.int .i64 1)) H) ⟨fun v29 H =>
    @opi _ (lift (some v29) H) ⟨fun v6 H =>
    some (AFr.al [(0, fr 0), (1, fr 1), (5, fr 5), (6, v6)], H)⟩⟩⟩)
@[simp] noncomputable def r14 (s0 : SpecP) (s1 : SpecM) (s2 : SpecM) (s3 : SpecM) (s4 : SpecM) (s5 : SpecP) (fr : AFr) (H : AHeap) : ARes :=
  areg (@opi _ (callP false s5 [] [] H) ⟨fun v75 H =>
    @opi _ (lift (some v75) H) ⟨fun v4 H =>
    some (AFr.al [(4, v4)], H)⟩⟩)
noncomputable def l0 (s0 : SpecP) (s1 : SpecM) (s2 : SpecM) (s3 : SpecM) (s4 : SpecM) (s5 : SpecP) (fr : AFr) (H : AHeap) : ARes :=
  @aseqi (@aseqi (r6 s0 s1 s2 s3 s4 s5 fr H) ⟨fun fr H =>
  @acondi (fr 27)
    ⟨some (.normal, fr, H)⟩
    ⟨some (.exit 0, fr, H)⟩⟩) ⟨fun fr H =>
  @aseqi (aexit 1 (@aseqi (r8 s0 s1 s2 s3 s4 s5 fr H) ⟨fun fr H =>
  @aseqi (r9 s0 s1 s2 s3 s4 s5 fr H) ⟨fun fr H =>
  @acondi (fr 38)
    ⟨@aseqi (r10 s0 s1 s2 s3 s4 s5 fr H) ⟨fun fr H =>
    @acondi (fr 61)
      ⟨@aseqi (r11 s0 s1 s2 s3 s4 s5 fr H) ⟨fun fr H =>
      some (.ret, fr, H)⟩⟩
      ⟨some (.normal, fr, H)⟩⟩⟩
    ⟨@aseqi (r12 s0 s1 s2 s3 s4 s5 fr H) ⟨fun fr H =>
    @acondi (fr 74)
      ⟨@aseqi (r13 s0 s1 s2 s3 s4 s5 fr H) ⟨fun fr H =>
      some (.ret, fr, H)⟩⟩
      ⟨some (.normal, fr, H)⟩⟩⟩⟩⟩)) ⟨fun fr H =>
  r7 s0 s1 s2 s3 s4 s5 fr H⟩⟩
@[simp] noncomputable def body (s0 : SpecP) (s1 : SpecM) (s2 : SpecM) (s3 : SpecM) (s4 : SpecM) (s5 : SpecP) (fr : AFr) (H : AHeap) : ARes :=
  @aseqi (r0 s0 s1 s2 s3 s4 s5 fr H) ⟨fun fr H =>
  @aseqi (r1 s0 s1 s2 s3 s4 s5 fr H) ⟨fun fr H =>
  @aseqi (r2 s0 s1 s2 s3 s4 s5 fr H) ⟨fun fr H =>
  @aseqi (@aseqi (r3 s0 s1 s2 s3 s4 s5 fr H) ⟨fun fr H =>
  @acondi (fr 19)
    ⟨@aseqi (r4 s0 s1 s2 s3 s4 s5 fr H) ⟨fun fr H =>
    some (.ret, fr, H)⟩⟩
    ⟨some (.normal, fr, H)⟩⟩) ⟨fun fr H =>
  @aseqi (@aseqi (r5 s0 s1 s2 s3 s4 s5 fr H) ⟨fun fr H =>
  aexit 0 (aloop (l0 s0 s1 s2 s3 s4 s5) fr H)⟩) ⟨fun fr H =>
  @aseqi (r14 s0 s1 s2 s3 s4 s5 fr H) ⟨fun fr H =>
  some (.ret, fr, H)⟩⟩⟩⟩⟩⟩
@[simp] def res (fr : AFr) (H : AHeap) : Option (List AV) := res2 (some (fr 4)) (some [])
end law05_MemTape
noncomputable def law05_MemTape (a0 a1 : AV) : Option AV := closeUpR (some [[none]]) (afinR law05_MemTape.res (law05_MemTape.body law05_short.spec mem_New.spec mem_Mem_Load.spec mem_Mem_Bus.spec mem_Mem_Drawn.spec law05_lives.spec (args0 [a0, a1]) AHeap.empty))
noncomputable def law05_MemTape.spec : List AV → Option AV
  | [a0, a1] => law05_MemTape a0 a1
  | _ => none

/-! (*bauta/mem.Mem).Fetch: function 26 -/
namespace mem_Mem_Fetch
noncomputable def C : Tab := Tab.none
@[simp] noncomputable def r0 (fr : AFr) (H : AHeap) : ARes :=
  areg (@opi _ (lift (some (W16 0#16)) H) ⟨fun v4 H =>
    @opi _ (lift (some (.int .i64 0)) H) ⟨fun v5 H =>
    some (AFr.al [(0, fr 0), (1, fr 1)], H)⟩⟩)
@[simp] noncomputable def r1 (fr : AFr) (H : AHeap) : ARes :=
  areg (@opi _ (lift (some (fr 1)) H) ⟨fun v6 H =>
    @opi _ (lift (abinR .x .rem v6 (W32 2#32)) H) ⟨fun v7 H =>
    @opi _ (lift (abinR .x .neq v7 (W32 0#32)) H) ⟨fun v8 H =>
    @opi _ (lift (some v8) H) ⟨fun v9 H =>
    @opi _ (@gdi (gw v9 false) ⟨lift (some (fr 1)) H⟩ H) ⟨fun v10 H =>
    @opi _ (@gdi (gw v9 false) ⟨lift (aconvR (some .i64) v10) H⟩ H) ⟨fun v11 H =>
    @opi _ (@gdi (gw v9 false) ⟨lift (abinR .x .quo v11 (.int .i64 2)) H⟩ H) ⟨fun v12 H =>
    @opi _ (@gdi (gw v9 false) ⟨lift (some (fr 0)) H⟩ H) ⟨fun v13 H =>
    @opi _ (@gdi (gw v9 false) ⟨lift (anil v13) H⟩ H) ⟨fun v14 H =>
    @opi _ (@gdi (gw v9 false) ⟨lift (afieldAddrR (some 0) v14) H⟩ H) ⟨fun v15 H =>
    @opi _ (@gdi (gw v9 false) ⟨lift (aloadR (some none) v15 H) H⟩ H) ⟨fun v16 H =>
    @opi _ (@gdi (gw v9 false) ⟨lift (alenR .sl v16) H⟩ H) ⟨fun v17 H =>
    @opi _ (@gdi (gw v9 false) ⟨lift (abinR .x .geq v12 v17) H⟩ H) ⟨fun v18 H =>
    @opi _ (lift (apick v9 (.bool true) v18) H) ⟨fun v19 H =>
    some (AFr.al [(0, fr 0), (1, fr 1), (19, v19)], H)⟩⟩⟩⟩⟩⟩⟩⟩⟩⟩⟩⟩⟩⟩)
@[simp] noncomputable def r2 (fr : AFr) (H : AHeap) : ARes :=
  areg (@opi _ (lift (some (W16 0#16)) H) ⟨fun v4 H =>
    @opi _ (lift (some (.int .i64 50)) H) ⟨fun v5 H =>
    some (AFr.al [(4, v4), (5, v5)], H)⟩⟩)
@[simp] noncomputable def r3 (fr : AFr) (H : AHeap) : ARes :=
  areg (@opi _ (lift (some (fr 0)) H) ⟨fun v20 H =>
    @opi _ (lift (anil v20) H) ⟨fun v21 H =>
    @opi _ (lift (afieldAddrR (some 0) v21) H) ⟨fun v22 H =>
    @opi _ (lift (aloadR (some none) v22 H) H) ⟨fun v23 H =>
    @opi _ (lift (some (fr 1)) H) ⟨fun v24 H =>
    @opi _ (lift (abinR .x .quo v24 (W32 2#32)) H) ⟨fun v25 H =>
    @opi _ (lift (aindexAddrR (.sl 1) v23 v25) H) ⟨fun v26 H =>
    @opi _ (lift (aloadR (some none) v26 H) H) ⟨fun v27 H =>
    @opi _ (lift (some v27) H) ⟨fun v4 H =>
    @opi _ (lift (some (.int .i64 0)) H) ⟨fun v5 H =>
    some (AFr.al [(4, v4), (5, v5)], H)⟩⟩⟩⟩⟩⟩⟩⟩⟩⟩)
@[simp] noncomputable def body (fr : AFr) (H : AHeap) : ARes :=
  @aseqi (r0 fr H) ⟨fun fr H =>
  @aseqi (@aseqi (r1 fr H) ⟨fun fr H =>
  @acondi (fr 19)
    ⟨@aseqi (r2 fr H) ⟨fun fr H =>
    some (.ret, fr, H)⟩⟩
    ⟨some (.normal, fr, H)⟩⟩) ⟨fun fr H =>
  @aseqi (r3 fr H) ⟨fun fr H =>
  some (.ret, fr, H)⟩⟩⟩
@[simp] def res (fr : AFr) (H : AHeap) : Option (List AV) := res2 (some (fr 4)) (res2 (some (fr 5)) (some []))
end mem_Mem_Fetch
noncomputable def mem_Mem_Fetch (a0 a1 : AV) (H : AHeap) : Option (AV × AHeap) := forget H (afinR mem_Mem_Fetch.res (mem_Mem_Fetch.body (args0 [a0, a1]) H))
noncomputable def mem_Mem_Fetch.spec : List AV → AHeap → Option (AV × AHeap)
  | [a0, a1], H => mem_Mem_Fetch a0 a1 H
  | _, _ => none

/-! bauta/bautalaw05.MemFlash: function 5 -/
namespace law05_MemFlash
noncomputable def C (s0 : SpecP) (s1 : SpecM) (s2 : SpecM) (s3 : SpecM) (s4 : SpecP) (s5 : SpecM) : Tab := ((((((Tab.none.add 20 (.pure false s0)).add 21 (.ref [true, false, true] s1)).add 22 (.ref [false, false] s2)).add 26 (.ref [false, false] s3)).add 25 (.pure false s4)).add 23 (.ref [false] s5))
@[simp] noncomputable def r0 (s0 : SpecP) (s1 : SpecM) (s2 : SpecM) (s3 : SpecM) (s4 : SpecP) (s5 : SpecM) (fr : AFr) (H : AHeap) : ARes :=
  areg (@opi _ (lift (some (.bool false)) H) ⟨fun v4 H =>
    some (AFr.al [(0, fr 0), (1, fr 1)], H)⟩)
@[simp] noncomputable def r1 (s0 : SpecP) (s1 : SpecM) (s2 : SpecM) (s3 : SpecM) (s4 : SpecP) (s5 : SpecM) (fr : AFr) (H : AHeap) : ARes :=
  areg (@opi _ (lift (some (fr 0)) H) ⟨fun v14 H =>
    @opi _ (callP false s0 [[some 1], [some 1]] [v14, .nils] H) ⟨fun v15 H =>
    @opi _ (lift (some v15) H) ⟨fun v13 H =>
    @opi _ (lift (aextract v13 0) H) ⟨fun v16 H =>
    @opi _ (lift (aextract v13 1) H) ⟨fun v17 H =>
    @opi _ (lift (some v16) H) ⟨fun v0 H =>
    some (AFr.al [(0, v0), (1, fr 1)], H)⟩⟩⟩⟩⟩⟩)
@[simp] noncomputable def r2 (s0 : SpecP) (s1 : SpecM) (s2 : SpecM) (s3 : SpecM) (s4 : SpecP) (s5 : SpecM) (fr : AFr) (H : AHeap) : ARes :=
  areg (@opi _ (lift (some (fr 0)) H) ⟨fun v18 H =>
    @opi _ (callM [true, false, true] s1 [[some 1], [none], [some 1]] [v18, (.int .i64 0), .nils] H) ⟨fun v19 H =>
    @opi _ (lift (some v19) H) ⟨fun v5 H =>
    some (AFr.al [(1, fr 1), (5, v5)], H)⟩⟩⟩)
@[simp] noncomputable def r3 (s0 : SpecP) (s1 : SpecM) (s2 : SpecM) (s3 : SpecM) (s4 : SpecP) (s5 : SpecM) (fr : AFr) (H : AHeap) : ARes :=
  areg (@opi _ (lift (some (fr 5)) H) ⟨fun v20 H =>
    @opi _ (lift (abinR .p .eql v20 .nilp) H) ⟨fun v21 H =>
    some (AFr.al [(1, fr 1), (5, fr 5), (21, v21)], H)⟩⟩)
@[simp] noncomputable def r4 (s0 : SpecP) (s1 : SpecM) (s2 : SpecM) (s3 : SpecM) (s4 : SpecP) (s5 : SpecM) (fr : AFr) (H : AHeap) : ARes :=
  areg (@opi _ (lift (some (.bool false)) H) ⟨fun v4 H =>
    some (AFr.al [(4, v4)], H)⟩)
@[simp] noncomputable def r5 (s0 : SpecP) (s1 : SpecM) (s2 : SpecM) (s3 : SpecM) (s4 : SpecP) (s5 : SpecM) (fr : AFr) (H : AHeap) : ARes :=
  areg (@opi _ (lift (some (fr 1)) H) ⟨fun v22 H =>
    @opi _ (lift (aconvR (some .u32) v22) H) ⟨fun v23 H =>
    @opi _ (lift (abinR .x .mul v23 (W32 4#32)) H) ⟨fun v24 H =>
    @opi _ (lift (some v24) H) ⟨fun v6 H =>
    some (AFr.al [(5, fr 5), (6, v6)], H)⟩⟩⟩⟩)
@[simp] noncomputable def r6 (s0 : SpecP) (s1 : SpecM) (s2 : SpecM) (s3 : SpecM) (s4 : SpecP) (s5 : SpecM) (fr : AFr) (H : AHeap) : ARes :=
  areg (@opi _ (lift (some (fr 5)) H) ⟨fun v26 H =>
    @opi _ (lift (some (fr 6)) H) ⟨fun v27 H =>
    @opi _ (callM [false, false] s2 [[none], [none]] [v26, v27] H) ⟨fun v28 H =>
    @opi _ (lift (some v28) H) ⟨fun v25 H =>
    @opi _ (lift (aextract v25 0) H) ⟨fun v29 H =>
    @opi _ (lift (aextract v25 1) H) ⟨fun v30 H =>
    @opi _ (lift (some v29) H) ⟨fun v7 H =>
    @opi _ (lift (some v30) H) ⟨fun v8 H =>
    some (AFr.al [(5, fr 5), (6, fr 6), (7, v7), (8, v8)], H)⟩⟩⟩⟩⟩⟩⟩⟩)
@[simp] noncomputable def r7 (s0 : SpecP) (s1 : SpecM) (s2 : SpecM) (s3 : SpecM) (s4 : SpecP) (s5 : SpecM) (fr : AFr) (H : AHeap) : ARes :=
  areg (@opi _ (lift (some (fr 5)) H) ⟨fun v32 H =>
    @opi _ (lift (some (fr 6)) H) ⟨fun v33 H =>
    @opi _ (callM [false, false] s3 [[none], [none]] [v32, v33] H) ⟨fun v34 H =>
    @opi _ (lift (some v34) H) ⟨fun v31 H =>
    @opi _ (lift (aextract v31 0) H) ⟨fun v35 H =>
    @opi _ (lift (aextract v31 1) H) ⟨fun v36 H =>
    @opi _ (lift (some v35) H) ⟨fun v9 H =>
    @opi _ (lift (some v36) H) ⟨fun v10 H =>
    some (AFr.al [(5, fr 5), (6, fr 6), (7, fr 7), (8, fr 8), (9, v9), (10, v10)], H)⟩⟩⟩⟩⟩⟩⟩⟩)
@[simp] noncomputable def r8 (s0 : SpecP) (s1 : SpecM) (s2 : SpecM) (s3 : SpecM) (s4 : SpecP) (s5 : SpecM) (fr : AFr) (H : AHeap) : ARes :=
  areg (@opi _ (lift (some (fr 5)) H) ⟨fun v38 H =>
    @opi _ (lift (some (fr 6)) H) ⟨fun v39 H =>
    @opi _ (lift (abinR .x .add v39 (W32 2#32)) H) ⟨fun v40 H =>
    @opi _ (callM [false, false] s3 [[none], [none]] [v38, v40] H) ⟨fun v41 H =>
    @opi _ (lift (some v41) H) ⟨fun v37 H =>
    @opi _ (lift (aextract v37 0) H) ⟨fun v42 H =>
    @opi _ (lift (aextract v37 1) H) ⟨fun v43 H =>
    @opi _ (lift (some v42) H) ⟨fun v11 H =>
    @opi _ (lift (some v43) H) ⟨fun v12 H =>
    some (AFr.al [(5, fr 5), (7, fr 7), (8, fr 8), (9, fr 9), (10, fr 10), (11, v11), (12, v12)], H)⟩⟩⟩⟩⟩⟩⟩⟩⟩)
@[simp] noncomputable def r9 (s0 : SpecP) (s1 : SpecM) (s2 : SpecM) (s3 : SpecM) (s4 : SpecP) (s5 : SpecM) (fr : AFr) (H : AHeap) : ARes :=
  areg (@opi _ (lift (some (fr 10)) H) ⟨fun v44 H =>
    @opi _ (lift (abinR .x .neq v44 (.int .i64 0)) H) ⟨fun v45 H =>
    @opi _ (lift (some v45) H) ⟨fun v46 H =>
    @opi _ (@gdi (gw v46 false) ⟨lift (some (fr 12)) H⟩ H) ⟨fun v47 H =>
    @opi _ (@gdi (gw v46 false) ⟨lift (abinR .x .neq v47 (.int .i64 0)) H⟩ H) ⟨fun v48 H =>
    @opi _ (lift (apick v46 (.bool true) v48) H) ⟨fun v49 H =>
    some (AFr.al [(5, fr 5), (7, fr 7), (8, fr 8), (9, fr 9), (11, fr 11), (49, v49)], H)⟩⟩⟩⟩⟩⟩)
@[simp] noncomputable def r10 (s0 : SpecP) (s1 : SpecM) (s2 : SpecM) (s3 : SpecM) (s4 : SpecP) (s5 : SpecM) (fr : AFr) (H : AHeap) : ARes :=
  areg (@opi _ (lift (some (fr 8)) H) ⟨fun v50 H =>
    @opi _ (lift (abinR .x .eql v50 (.int .i64 50)) H) ⟨fun v51 H =>
    @opi _ (lift (some v51) H) ⟨fun v52 H =>
    @opi _ (@gdi (gw v52 true) ⟨lift (some (fr 7)) H⟩ H) ⟨fun v53 H =>
    @opi _ (@gdi (gw v52 true) ⟨lift (abinR .x .eql v53 (W32 0#32)) H⟩ H) ⟨fun v54 H =>
    @opi _ (lift (apick v52 v54 (.bool false)) H) ⟨fun v55 H =>
    @opi _ (lift (some v55) H) ⟨fun v56 H =>
    @opi _ (@gdi (gw v56 true) ⟨callP false s4 [] [] H⟩ H) ⟨fun v57 H =>
    @opi _ (lift (apick v56 v57 (.bool false)) H) ⟨fun v58 H =>
    @opi _ (lift (some v58) H) ⟨fun v4 H =>
    some (AFr.al [(4, v4)], H)⟩⟩⟩⟩⟩⟩⟩⟩⟩⟩)
@[simp] noncomputable def r11 (s0 : SpecP) (s1 : SpecM) (s2 : SpecM) (s3 : SpecM) (s4 : SpecP) (s5 : SpecM) (fr : AFr) (H : AHeap) : ARes :=
  areg (@opi _ (lift (some (fr 8)) H) ⟨fun v59 H =>
    @opi _ (lift (abinR .x .eql v59 (.int .i64 0)) H) ⟨fun v60 H =>
    @opi _ (lift (some v60) H) ⟨fun v61 H =>
    @opi _ (@gdi (gw v61 true) ⟨lift (some (fr 7)) H⟩ H) ⟨fun v62 H =>
    @opi _ (@gdi (gw v61 true) ⟨lift (some (fr 9)) H⟩ H) ⟨fun v63 H =>
    @opi _ (@gdi (gw v61 true) ⟨lift (aconvR (some .u32) v63) H⟩ H) ⟨fun v64 H =>
    @opi _ (@gdi (gw v61 true) ⟨lift (some (fr 11)) H⟩ H) ⟨fun v65 H =>
    @opi _ (@gdi (gw v61 true) ⟨lift (aconvR (some .u32) v65) H⟩ H) ⟨fun v66 H =>
    @opi _ (@gdi (gw v61 true) ⟨lift (abinR .x .mul (W32 65536#32) v66) H⟩ H) ⟨fun v67 H =>
    @opi _ (@gdi (gw v61 true) ⟨lift (abinR .x .add v64 v67) H⟩ H) ⟨fun v68 H =>
    @opi _ (@gdi (gw v61 true) ⟨lift (abinR .x .eql v62 v68) H⟩ H) ⟨fun v69 H =>
    @opi _ (lift (apick v61 v69 (.bool false)) H) ⟨fun v70 H =>
    @opi _ (lift (some v70) H) ⟨fun v71 H =>
    @opi _ (@gdi (gw v71 true) ⟨lift (some (fr 5)) H⟩ H) ⟨fun v72 H =>
    @opi _ (@gdi (gw v71 true) ⟨callM [false] s5 [[none]] [v72] H⟩ H) ⟨fun v73 H =>
    @opi _ (@gdi (gw v71 true) ⟨lift (some (fr 7)) H⟩ H) ⟨fun v74 H =>
    @opi _ (@gdi (gw v71 true) ⟨lift (abinR .x .eql v73 v74) H⟩ H) ⟨fun v75 H =>
    @opi _ (lift (apick v71 v75 (.bool false)) H) ⟨fun v76 H =>
    @opi _ (lift (some v76) H) ⟨fun v77 H =>
    @opi _ (@gdi (gw v77 true) ⟨callP false s4 [] [] H⟩ H) ⟨fun v78 H =>
    @opi _ (lift (apick v77 v78 (.bool false)) H) ⟨fun v79 H =>
    @opi _ (lift (some v79) H) ⟨fun v4 H =>
    some (AFr.al [(4, v4)], H)⟩⟩⟩⟩⟩⟩⟩⟩⟩⟩⟩⟩⟩⟩⟩⟩⟩⟩⟩⟩⟩⟩)
@[simp] noncomputable def body (s0 : SpecP) (s1 : SpecM) (s2 : SpecM) (s3 : SpecM) (s4 : SpecP) (s5 : SpecM) (fr : AFr) (H : AHeap) : ARes :=
  @aseqi (r0 s0 s1 s2 s3 s4 s5 fr H) ⟨fun fr H =>
  @aseqi (r1 s0 s1 s2 s3 s4 s5 fr H) ⟨fun fr H =>
  @aseqi (r2 s0 s1 s2 s3 s4 s5 fr H) ⟨fun fr H =>
  @aseqi (@aseqi (r3 s0 s1 s2 s3 s4 s5 fr H) ⟨fun fr H =>
  @acondi (fr 21)
    ⟨@aseqi (r4 s0 s1 s2 s3 s4 s5 fr H) ⟨fun fr H =>
    some (.ret, fr, H)⟩⟩
    ⟨some (.normal, fr, H)⟩⟩) ⟨fun fr H =>
  @aseqi (r5 s0 s1 s2 s3 s4 s5 fr H) ⟨fun fr H =>
  @aseqi (r6 s0 s1 s2 s3 s4 s5 fr H) ⟨fun fr H =>
  @aseqi (r7 s0 s1 s2 s3 s4 s5 fr H) ⟨fun fr H =>
  @aseqi (r8 s0 s1 s2 s3 s4 s5 fr H) ⟨fun fr H =>
  @aseqi (@aseqi (r9 s0 s1 s2 s3 s4 s5 fr H) ⟨fun fr H =>
  @acondi (fr 49)
    ⟨@aseqi (r10 s0 s1 s2 s3 s4 s5 fr H) ⟨fun fr H =>
    some (.ret, fr, H)⟩⟩
    ⟨some (.normal, fr, H)⟩⟩) ⟨fun fr H =>
  @aseqi (r11 s0 s1 s2 s3 s4 s5 fr H) ⟨fun fr H =>
  some (.ret, fr, H)⟩⟩⟩⟩⟩⟩⟩⟩⟩⟩
@[simp] def res (fr : AFr) (H : AHeap) : Option (List AV) := res2 (some (fr 4)) (some [])
end law05_MemFlash
noncomputable def law05_MemFlash (a0 a1 : AV) : Option AV := closeUpR (some [[none]]) (afinR law05_MemFlash.res (law05_MemFlash.body law05_short.spec mem_New.spec mem_Mem_Load.spec mem_Mem_Fetch.spec law05_lives.spec mem_Mem_Bus.spec (args0 [a0, a1]) AHeap.empty))
noncomputable def law05_MemFlash.spec : List AV → Option AV
  | [a0, a1] => law05_MemFlash a0 a1
  | _ => none

/-! bauta/bautaref05.New: function 28 -/
namespace ref05_New
noncomputable def C : Tab := Tab.none
@[simp] noncomputable def r0 (fr : AFr) (H : AHeap) : ARes :=
  areg (@opi _ (lift (some .nilp) H) ⟨fun v6 H =>
    some (AFr.al [(0, fr 0), (1, fr 1), (2, fr 2)], H)⟩)
@[simp] noncomputable def r1 (fr : AFr) (H : AHeap) : ARes :=
  areg (@opi _ (abuildSliceR (some ⟨T.ty_uint32, 1, 4, [(W32 0#32)]⟩) 0 [] H) ⟨fun v9 H =>
    @opi _ (lift (some (fr 2)) H) ⟨fun v10 H =>
    @opi _ (aappendR (some ⟨T.ty_uint32, 1, 4, [(W32 0#32)]⟩) v9 v10 H) ⟨fun v11 H =>
    @opi _ (lift (abuildR (.str [.nils, .nils, .nils, (.int .i64 0), (W32 0#32)] [(0, 1), (1, 1), (2, 1), (3, 1), (4, 1)]) [(2, v11)]) H) ⟨fun v12 H =>
    @opi _ (abox T.ty_bautaref05_Mem v12 H) ⟨fun v13 H =>
    @opi _ (lift (some v13) H) ⟨fun v7 H =>
    some (AFr.al [(0, fr 0), (1, fr 1), (7, v7)], H)⟩⟩⟩⟩⟩⟩)
@[simp] noncomputable def r2 (fr : AFr) (H : AHeap) : ARes :=
  areg (@opi _ (lift (some (.int .i64 0)) H) ⟨fun v8 H =>
    some (AFr.al [(0, fr 0), (1, fr 1), (7, fr 7), (8, v8)], H)⟩)
@[simp] noncomputable def r3 (fr : AFr) (H : AHeap) : ARes :=
  areg (@opi _ (lift (some (fr 8)) H) ⟨fun v14 H =>
    @opi _ (lift (some (fr 0)) H) ⟨fun v15 H =>
    @opi _ (lift (alenR .sl v15) H) ⟨fun v16 H =>
    @opi _ (lift (abinR .x .lss v14 v16) H) ⟨fun v17 H =>
    @opi _ (lift (some v17) H) ⟨fun v18 H =>
    @opi _ (@gdi (gw v18 true) ⟨lift (some (fr 8)) H⟩ H) ⟨fun v19 H =>
    @opi _ (@gdi (gw v18 true) ⟨lift (abinR .x .lss v19 (.int .i64 60000)) H⟩ H) ⟨fun v20 H =>
    @opi _ (lift (apick v18 v20 (.bool false)) H) ⟨fun v21 H =>
    some (AFr.al [(0, fr 0), (1, fr 1), (7, fr 7), (8, fr 8), (21, v21)], H)⟩⟩⟩⟩⟩⟩⟩⟩)
@[simp] noncomputable def r5 (fr : AFr) (H : AHeap) : ARes :=
  areg (@opi _ (lift (some (fr 7)) H) ⟨fun v24 H1 =>
    @opi _ (lift (some (fr 7)) H1) ⟨fun v25 H2 =>
    @opi _ (lift (anil v25) H2) ⟨fun v26 H3 =>
    @opi _ (lift (afieldAddrR (some 0) v26) H3) ⟨fun v27 H4 =>
    @opi _ (lift (aloadR (some none) v27 H4) H4) ⟨fun v28 H5 =>
    @opi _ (lift (some (fr 0)) H5) ⟨fun v29 H6 =>
    @opi _ (lift (some (fr 8)) H6) ⟨fun v30 H7 =>
    @opi _ (lift (aindexAddrR (.sl 1) v29 v30) H7) ⟨fun v31 H8 =>
    @opi _ (lift (aloadR (some none) v31 H8) H8) ⟨fun v32 H9 =>
    @opi _ (abuildSliceR (some ⟨T.ty_uint16, 1, 2, [(W16 0#16)]⟩) 1 [(0, v32)] H9) ⟨fun v33 H10 =>
    @opi _ (aappendR (some ⟨T.ty_uint16, 1, 2, [(W16 0#16)]⟩) v28 v33 H10) ⟨fun v34 H11 =>
    @opi _ (lift (anil v24) H11) ⟨fun v35 H12 =>
    @opi _ (lift (afieldAddrR (some 0) v35) H12) ⟨fun v36 H13 =>
    @opi _ (liftS (astoreR (some 1) v36 v34 H13)) ⟨fun _ H14 =>
    some (AFr.al [(0, fr 0), (1, fr 1), (7, fr 7), (8, fr 8)], H14)⟩⟩⟩⟩⟩⟩⟩⟩⟩⟩⟩⟩⟩⟩)
@[simp] noncomputable def r4 (fr : AFr) (H : AHeap) : ARes :=
  areg (@opi _ (lift (some (fr 8)) H) ⟨fun v22 H =>
    @opi _ (lift (abinR .x .add v22 (.int .i64 1)) H) ⟨fun v23 H =>
    @opi _ (lift (some v23) H) ⟨fun v8 H =>
    some (AFr.al [(0, fr 0), (1, fr 1), (7, fr 7), (8, v8)], H)⟩⟩⟩)
@[simp] noncomputable def r6 (fr : AFr) (H : AHeap) : ARes :=
  areg (@opi _ (lift (some (fr 1)) H) ⟨fun v37 H =>
    @opi _ (lift (abinR .x .gtr v37 (.int .i64 16000)) H) ⟨fun v38 H =>
    some (AFr.al [(1, fr 1), (7, fr 7), (38, v38)], H)⟩⟩)
@[simp] noncomputable def r7 (fr : AFr) (H : AHeap) : ARes :=
  areg (@opi _ (lift (some (.int .i64 16000)) H) ⟨fun v1 H =>
    some (AFr.al [(1, v1), (7, fr 7)], H)⟩)
@[simp] noncomputable def r8 (fr : AFr) (H : AHeap) : ARes :=
  areg (@opi _ (lift (some (fr 1)) H) ⟨fun v39 H =>
    @opi _ (lift (abinR .x .gtr v39 (.int .i64 0)) H) ⟨fun v40 H =>
    some (AFr.al [(1, fr 1), (7, fr 7), (40, v40)], H)⟩⟩)
@[simp] noncomputable def r9 (fr : AFr) (H : AHeap) : ARes :=
  areg (@opi _ (lift (some (fr 7)) H) ⟨fun v41 H =>
    @opi _ (lift (some (fr 1)) H) ⟨fun v42 H =>
    @opi _ (amakeR (some ⟨T.ty_uint32, 1, 4, [(W32 0#32)]⟩) v42 v42 H) ⟨fun v43 H =>
    @opi _ (lift (anil v41) H) ⟨fun v44 H =>
    @opi _ (lift (afieldAddrR (some 1) v44) H) ⟨fun v45 H =>
    @opi _ (liftS (astoreR (some 1) v45 v43 H)) ⟨fun _ H =>
    some (AFr.al [(7, fr 7)], H)⟩⟩⟩⟩⟩⟩)
@[simp] noncomputable def r10 (fr : AFr) (H : AHeap) : ARes :=
  areg (@opi _ (lift (some (fr 7)) H) ⟨fun v46 H =>
    @opi _ (lift (some v46) H) ⟨fun v6 H =>
    some (AFr.al [(6, v6)], H)⟩⟩)
noncomputable def l0 (fr : AFr) (H : AHeap) : ARes :=
  @aseqi (@aseqi (r3 fr H) ⟨fun fr H =>
  @acondi (fr 21)
    ⟨some (.normal, fr, H)⟩
    ⟨some (.exit 0, fr, H)⟩⟩) ⟨fun fr H =>
  @aseqi (aexit 1 (r5 fr H)) ⟨fun fr H =>
  r4 fr H⟩⟩
@[simp] noncomputable def body (fr : AFr) (H : AHeap) : ARes :=
  @aseqi (r0 fr H) ⟨fun fr H =>
  @aseqi (r1 fr H) ⟨fun fr H =>
  @aseqi (@aseqi (r2 fr H) ⟨fun fr H =>
  aexit 0 (aloop (l0) fr H)⟩) ⟨fun fr H =>
  @aseqi (@aseqi (r6 fr H) ⟨fun fr H =>
  @acondi (fr 38)
    ⟨r7 fr H⟩
    ⟨some (.normal, fr, H)⟩⟩) ⟨fun fr H =>
  @aseqi (@aseqi (r8 fr H) ⟨fun fr H =>
  @acondi (fr 40)
    ⟨r9 fr H⟩
    ⟨some (.normal, fr, H)⟩⟩) ⟨fun fr H =>
  @aseqi (r10 fr H) ⟨fun fr H =>
  some (.ret, fr, H)⟩⟩⟩⟩⟩⟩
@[simp] def res (fr : AFr) (H : AHeap) : Option (List AV) := res2 (some (fr 6)) (some [])
end ref05_New
noncomputable def ref05_New (a0 a1 a2 : AV) (H : AHeap) : Option (AV × AHeap) := raw (afinR ref05_New.res (ref05_New.body (args0 [a0, a1, a2]) H))
noncomputable def ref05_New.spec : List AV → AHeap → Option (AV × AHeap)
  | [a0, a1, a2], H => ref05_New a0 a1 a2 H
  | _, _ => none

/-! (*bauta/bautaref05.Mem).Load: function 29 -/
namespace ref05_Mem_Load
noncomputable def C : Tab := Tab.none
@[simp] noncomputable def r0 (fr : AFr) (H : AHeap) : ARes :=
  areg (@opi _ (lift (some (W32 0#32)) H) ⟨fun v4 H =>
    @opi _ (lift (some (.int .i64 0)) H) ⟨fun v5 H =>
    some (AFr.al [(0, fr 0), (1, fr 1)], H)⟩⟩)
@[simp] noncomputable def r1 (fr : AFr) (H : AHeap) : ARes :=
  areg (@opi _ (lift (some (fr 1)) H) ⟨fun v8 H =>
    @opi _ (lift (abinR .x .rem v8 (W32 4#32)) H) ⟨fun v9 H =>
    @opi _ (lift (abinR .x .neq v9 (W32 0#32)) H) ⟨fun v10 H =>
    some (AFr.al [(0, fr 0), (1, fr 1), (10, v10)], H)⟩⟩⟩)
@[simp] noncomputable def r2 (fr : AFr) (H : AHeap) : ARes :=
  areg (@opi _ (lift (some (W32 0#32)) H) ⟨fun v4 H =>
    @opi _ (lift (some (.int .i64 50)) H) ⟨fun v5 H =>
    some (AFr.al [(4, v4), (5, v5)], H)⟩⟩)
@[simp] noncomputable def r3 (fr : AFr) (H : AHeap) : ARes :=
  areg (@opi _ (lift (some (W32 0#32)) H) ⟨fun v6 H =>
    some (AFr.al [(0, fr 0), (1, fr 1)], H)⟩)
@[simp] noncomputable def r4 (fr : AFr) (H : AHeap) : ARes :=
  areg (@opi _ (lift (some (fr 1)) H) ⟨fun v11 H =>
    @opi _ (lift (abinR .x .eql v11 (W32 1073741824#32)) H) ⟨fun v12 H =>
    some (AFr.al [(0, fr 0), (1, fr 1), (12, v12)], H)⟩⟩)
@[simp] noncomputable def r5 (fr : AFr) (H : AHeap) : ARes :=
  areg (@opi _ (lift (some (fr 0)) H) ⟨fun v13 H1 =>
    @opi _ (lift (anil v13) H1) ⟨fun v14 H2 =>
    @opi _ (lift (afieldAddrR (some 3) v14) H2) ⟨fun v15 H3 =>
    @opi _ (lift (aloadR (some none) v15 H3) H3) ⟨fun v16 H4 =>
    @opi _ (lift (some (fr 0)) H4) ⟨fun v17 H5 =>
    @opi _ (lift (anil v17) H5) ⟨fun v18 H6 =>
    @opi _ (lift (afieldAddrR (some 2) v18) H6) ⟨fun v19 H7 =>
    @opi _ (lift (aloadR (some none) v19 H7) H7) ⟨fun v20 H8 =>
    @opi _ (lift (alenR .sl v20) H8) ⟨fun v21 H9 =>
    @opi _ (lift (abinR .x .geq v16 v21) H9) ⟨fun v22 H10 =>
    some (AFr.al [(0, fr 0), (22, v22)], H10)⟩⟩⟩⟩⟩⟩⟩⟩⟩⟩)
@[simp] noncomputable def r6 (fr : AFr) (H : AHeap) : ARes :=
  areg (@opi _ (lift (some (W32 0#32)) H) ⟨fun v4 H =>
    @opi _ (lift (some (.int .i64 51)) H) ⟨fun v5 H =>
    some (AFr.al [(4, v4), (5, v5)], H)⟩⟩)
@[simp] noncomputable def r7 (fr : AFr) (H : AHeap) : ARes :=
  areg (@opi _ (lift (some (fr 0)) H) ⟨fun v23 H1 =>
    @opi _ (lift (some (fr 0)) H1) ⟨fun v24 H2 =>
    @opi _ (lift (anil v24) H2) ⟨fun v25 H3 =>
    @opi _ (lift (afieldAddrR (some 2) v25) H3) ⟨fun v26 H4 =>
    @opi _ (lift (aloadR (some none) v26 H4) H4) ⟨fun v27 H5 =>
    @opi _ (lift (some (fr 0)) H5) ⟨fun v28 H6 =>
    @opi _ (lift (anil v28) H6) ⟨fun v29 H7 =>
    @opi _ (lift (afieldAddrR (some 3) v29) H7) ⟨fun v30 H8 =>
    @opi _ (lift (aloadR (some none) v30 H8) H8) ⟨fun v31 H9 =>
    @opi _ (lift (aindexAddrR (.sl 1) v27 v31) H9) ⟨fun v32 H10 =>
    @opi _ (lift (aloadR (some none) v32 H10) H10) ⟨fun v33 H11 =>
    @opi _ (lift (some (fr 0)) H11) ⟨fun v34 H12 =>
    @opi _ (lift (anil v34) H12) ⟨fun v35 H13 =>
    @opi _ (lift (afieldAddrR (some 3) v35) H13) ⟨fun v36 H14 =>
    @opi _ (lift (aloadR (some none) v36 H14) H14) ⟨fun v37 H15 =>
    @opi _ (lift (abinR .x .add v37 (.int .i64 1)) H15) ⟨fun v38 H16 =>
    @opi _ (lift (some v33) H16) ⟨fun v6 H17 =>
    @opi _ (lift (anil v23) H17) ⟨fun v39 H18 =>
    @opi _ (lift (afieldAddrR (some 3) v39) H18) ⟨fun v40 H19 =>
    @opi _ (liftS (astoreR (some 1) v40 v38 H19)) ⟨fun _ H20 =>
    some (AFr.al [(0, fr 0), (6, v6)], H20)⟩⟩⟩⟩⟩⟩⟩⟩⟩⟩⟩⟩⟩⟩⟩⟩⟩⟩⟩⟩)
@[simp] noncomputable def r8 (fr : AFr) (H : AHeap) : ARes :=
  areg (@opi _ (lift (some (fr 1)) H) ⟨fun v41 H =>
    @opi _ (lift (abinR .x .geq v41 (W32 536870912#32)) H) ⟨fun v42 H =>
    @opi _ (lift (some v42) H) ⟨fun v43 H =>
    @opi _ (@gdi (gw v43 true) ⟨lift (some (fr 1)) H⟩ H) ⟨fun v44 H =>
    @opi _ (@gdi (gw v43 true) ⟨lift (abinR .x .sub v44 (W32 536870912#32)) H⟩ H) ⟨fun v45 H =>
    @opi _ (@gdi (gw v43 true) ⟨lift (abinR .x .quo v45 (W32 4#32)) H⟩ H) ⟨fun v46 H =>
    @opi _ (@gdi (gw v43 true) ⟨lift (aconvR (some .i64) v46) H⟩ H) ⟨fun v47 H =>
    @opi _ (@gdi (gw v43 true) ⟨lift (some (fr 0)) H⟩ H) ⟨fun v48 H =>
    @opi _ (@gdi (gw v43 true) ⟨lift (anil v48) H⟩ H) ⟨fun v49 H =>
    @opi _ (@gdi (gw v43 true) ⟨lift (afieldAddrR (some 1) v49) H⟩ H) ⟨fun v50 H =>
    @opi _ (@gdi (gw v43 true) ⟨lift (aloadR (some none) v50 H) H⟩ H) ⟨fun v51 H =>
    @opi _ (@gdi (gw v43 true) ⟨lift (alenR .sl v51) H⟩ H) ⟨fun v52 H =>
    @opi _ (@gdi (gw v43 true) ⟨lift (abinR .x .lss v47 v52) H⟩ H) ⟨fun v53 H =>
    @opi _ (lift (apick v43 v53 (.bool false)) H) ⟨fun v54 H =>
    some (AFr.al [(0, fr 0), (1, fr 1), (54, v54)], H)⟩⟩⟩⟩⟩⟩⟩⟩⟩⟩⟩⟩⟩⟩)
@[simp] noncomputable def r9 (fr : AFr) (H : AHeap) : ARes :=
  areg (@opi _ (lift (some (fr 0)) H) ⟨fun v55 H =>
    @opi _ (lift (anil v55) H) ⟨fun v56 H =>
    @opi _ (lift (afieldAddrR (some 1) v56) H) ⟨fun v57 H =>
    @opi _ (lift (aloadR (some none) v57 H) H) ⟨fun v58 H =>
    @opi _ (lift (some (fr 1)) H) ⟨fun v59 H =>
    @opi _ (lift (abinR .x .sub v59 (W32 536870912#32)) H) ⟨fun v60 H =>
    @opi _ (lift (abinR .x .quo v60 (W32 4#32)) H) ⟨fun v61 H =>
    @opi _ (lift (aindexAddrR (.sl 1) v58 v61) H) ⟨fun v62 H =>
    @opi _ (lift (aloadR (some none) v62 H) H) ⟨fun v63 H =>
    @opi _ (lift (some v63) H) ⟨fun v6 H =>
    some (AFr.al [(0, fr 0), (6, v6)], H)⟩⟩⟩⟩⟩⟩⟩⟩⟩⟩)
@[simp] noncomputable def r10 (fr : AFr) (H : AHeap) : ARes :=
  areg (@opi _ (lift (some (fr 1)) H) ⟨fun v64 H =>
    @opi _ (lift (abinR .x .quo v64 (W32 2#32)) H) ⟨fun v65 H =>
    @opi _ (lift (aconvR (some .i64) v65) H) ⟨fun v66 H =>
    @opi _ (lift (some v66) H) ⟨fun v7 H =>
    some (AFr.al [(0, fr 0), (7, v7)], H)⟩⟩⟩⟩)
@[simp] noncomputable def r11 (fr : AFr) (H : AHeap) : ARes :=
  areg (@opi _ (lift (some (fr 7)) H) ⟨fun v67 H =>
    @opi _ (lift (abinR .x .add v67 (.int .i64 2)) H) ⟨fun v68 H =>
    @opi _ (lift (some (fr 0)) H) ⟨fun v69 H =>
    @opi _ (lift (anil v69) H) ⟨fun v70 H =>
    @opi _ (lift (afieldAddrR (some 0) v70) H) ⟨fun v71 H =>
    @opi _ (lift (aloadR (some none) v71 H) H) ⟨fun v72 H =>
    @opi _ (lift (alenR .sl v72) H) ⟨fun v73 H =>
    @opi _ (lift (abinR .x .leq v68 v73) H) ⟨fun v74 H =>
    some (AFr.al [(0, fr 0), (7, fr 7), (74, v74)], H)⟩⟩⟩⟩⟩⟩⟩⟩)
@[simp] noncomputable def r12 (fr : AFr) (H : AHeap) : ARes :=
  areg (@opi _ (lift (some (fr 0)) H) ⟨fun v75 H1 =>
    @opi _ (lift (anil v75) H1) ⟨fun v76 H2 =>
    @opi _ (lift (afieldAddrR (some 0) v76) H2) ⟨fun v77 H3 =>
    @opi _ (lift (aloadR (some none) v77 H3) H3) ⟨fun v78 H4 =>
    @opi _ (lift (some (fr 7)) H4) ⟨fun v79 H5 =>
    @opi _ (lift (aindexAddrR (.sl 1) v78 v79) H5) ⟨fun v80 H6 =>
    @opi _ (lift (aloadR (some none) v80 H6) H6) ⟨fun v81 H7 =>
    @opi _ (lift (aconvR (some .u32) v81) H7) ⟨fun v82 H8 =>
    @opi _ (lift (some (fr 0)) H8) ⟨fun v83 H9 =>
    @opi _ (lift (anil v83) H9) ⟨fun v84 H10 =>
    @opi _ (lift (afieldAddrR (some 0) v84) H10) ⟨fun v85 H11 =>
    @opi _ (lift (aloadR (some none) v85 H11) H11) ⟨fun v86 H12 =>
    @opi _ (lift (some (fr 7)) H12) ⟨fun v87 H13 =>
    @opi _ (lift (abinR .x .add v87 (.int .i64 1)) H13) ⟨fun v88 H14 =>
    @opi _ (lift (aindexAddrR (.sl 1) v86 v88) H14) ⟨fun v89 H15 =>
    @opi _ (lift (aloadR (some none) v89 H15) H15) ⟨fun v90 H16 =>
    @opi _ (lift (aconvR (some .u32) v90) H16) ⟨fun v91 H17 =>
    @opi _ (lift (abinR .x .mul (W32 65536#32) v91) H17) ⟨fun v92 H18 =>
    @opi _ (lift (abinR .x .add v82 v92) H18) ⟨fun v93 H19 =>
    @opi _ (lift (some v93) H19) ⟨fun v6 H20 =>
    some (AFr.al [(0, fr 0), (6, v6)], H20)⟩⟩⟩⟩⟩⟩⟩⟩⟩⟩⟩⟩⟩⟩⟩⟩⟩⟩⟩⟩)
@[simp] noncomputable def r13 (fr : AFr) (H : AHeap) : ARes :=
  areg (@opi _ (lift (some (W32 0#32)) H) ⟨fun v4 H =>
    @opi _ (lift (some (.int .i64 50)) H) ⟨fun v5 H =>
    some (AFr.al [(4, v4), (5, v5)], H)⟩⟩)
@[simp] noncomputable def r14 (fr : AFr) (H : AHeap) : ARes :=
  areg (@opi _ (lift (some (fr 0)) H) ⟨fun v94 H =>
    @opi _ (lift (some (fr 6)) H) ⟨fun v95 H =>
    @opi _ (lift (anil v94) H) ⟨fun v96 H =>
    @opi _ (lift (afieldAddrR (some 4) v96) H) ⟨fun v97 H =>
    @opi _ (liftS (astoreR (some 1) v97 v95 H)) ⟨fun _ H =>
    some (AFr.al [(6, fr 6)], H)⟩⟩⟩⟩⟩)
@[simp] noncomputable def r15 (fr : AFr) (H : AHeap) : ARes :=
  areg (@opi _ (lift (some (fr 6)) H) ⟨fun v98 H =>
    @opi _ (lift (some v98) H) ⟨fun v4 H =>
    @opi _ (lift (some (.int .i64 0)) H) ⟨fun v5 H =>
    some (AFr.al [(4, v4), (5, v5)], H)⟩⟩⟩)
@[simp] noncomputable def body (fr : AFr) (H : AHeap) : ARes :=
  @aseqi (r0 fr H) ⟨fun fr H =>
  @aseqi (@aseqi (r1 fr H) ⟨fun fr H =>
  @acondi (fr 10)
    ⟨@aseqi (r2 fr H) ⟨fun fr H =>
    some (.ret, fr, H)⟩⟩
    ⟨some (.normal, fr, H)⟩⟩) ⟨fun fr H =>
  @aseqi (r3 fr H) ⟨fun fr H =>
  @aseqi (@aseqi (r4 fr H) ⟨fun fr H =>
  @acondi (fr 12)
    ⟨@aseqi (@aseqi (r5 fr H) ⟨fun fr H =>
    @acondi (fr 22)
      ⟨@aseqi (r6 fr H) ⟨fun fr H =>
      some (.ret, fr, H)⟩⟩
      ⟨some (.normal, fr, H)⟩⟩) ⟨fun fr H =>
    r7 fr H⟩⟩
    ⟨@aseqi (r8 fr H) ⟨fun fr H =>
    @acondi (fr 54)
      ⟨r9 fr H⟩
      ⟨@aseqi (r10 fr H) ⟨fun fr H =>
      @aseqi (r11 fr H) ⟨fun fr H =>
      @acondi (fr 74)
        ⟨r12 fr H⟩
        ⟨@aseqi (r13 fr H) ⟨fun fr H =>
        some (.ret, fr, H)⟩⟩⟩⟩⟩⟩⟩⟩) ⟨fun fr H =>
  @aseqi (r14 fr H) ⟨fun fr H =>
  @aseqi (r15 fr H) ⟨fun fr H =>
  some (.ret, fr, H)⟩⟩⟩⟩⟩⟩
@[simp] def res (fr : AFr) (H : AHeap) : Option (List AV) := res2 (some (fr 4)) (res2 (some (fr 5)) (some []))
end ref05_Mem_Load
noncomputable def ref05_Mem_Load (a0 a1 : AV) (H : AHeap) : Option (AV × AHeap) := forget H (afinR ref05_Mem_Load.res (ref05_Mem_Load.body (args0 [a0, a1]) H))
noncomputable def ref05_Mem_Load.spec : List AV → AHeap → Option (AV × AHeap)
  | [a0, a1], H => ref05_Mem_Load a0 a1 H
  | _, _ => none

/-! (*bauta/bautaref05.Mem).Store: function 31 -/
namespace ref05_Mem_Store
noncomputable def C : Tab := Tab.none
@[simp] noncomputable def r0 (fr : AFr) (H : AHeap) : ARes :=
  areg (@opi _ (lift (some (.int .i64 0)) H) ⟨fun v6 H =>
    some (AFr.al [(0, fr 0), (1, fr 1), (2, fr 2)], H)⟩)
@[simp] noncomputable def r1 (fr : AFr) (H : AHeap) : ARes :=
  areg (@opi _ (lift (some (fr 1)) H) ⟨fun v7 H =>
    @opi _ (lift (abinR .x .rem v7 (W32 4#32)) H) ⟨fun v8 H =>
    @opi _ (lift (abinR .x .neq v8 (W32 0#32)) H) ⟨fun v9 H =>
    @opi _ (lift (some v9) H) ⟨fun v10 H =>
    @opi _ (@gdi (gw v10 false) ⟨lift (some (fr 1)) H⟩ H) ⟨fun v11 H =>
    @opi _ (@gdi (gw v10 false) ⟨lift (abinR .x .lss v11 (W32 536870912#32)) H⟩ H) ⟨fun v12 H =>
    @opi _ (lift (apick v10 (.bool true) v12) H) ⟨fun v13 H =>
    @opi _ (lift (some v13) H) ⟨fun v14 H =>
    @opi _ (@gdi (gw v14 false) ⟨lift (some (fr 1)) H⟩ H) ⟨fun v15 H =>
    @opi _ (@gdi (gw v14 false) ⟨lift (abinR .x .sub v15 (W32 536870912#32)) H⟩ H) ⟨fun v16 H =>
    @opi _ (@gdi (gw v14 false) ⟨lift (abinR .x .quo v16 (W32 4#32)) H⟩ H) ⟨fun v17 H =>
    @opi _ (@gdi (gw v14 false) ⟨lift (aconvR (some .i64) v17) H⟩ H) ⟨fun v18 H =>
    @opi _ (@gdi (gw v14 false) ⟨lift (some (fr 0)) H⟩ H) ⟨fun v19 H =>
    @opi _ (@gdi (gw v14 false) ⟨lift (anil v19) H⟩ H) ⟨fun v20 H =>
    @opi _ (@gdi (gw v14 false) ⟨lift (afieldAddrR (some 1) v20) H⟩ H) ⟨fun v21 H =>
    @opi _ (@gdi (gw v14 false) ⟨lift (aloadR (some none) v21 H) H⟩ H) ⟨fun v22 H =>
    @opi _ (@gdi (gw v14 false) ⟨lift (alenR .sl v22) H⟩ H) ⟨fun v23 H =>
    @opi _ (@gdi (gw v14 false) ⟨lift (abinR .x .geq v18 v23) H⟩ H) ⟨fun v24 H =>
    @opi _ (lift (apick v14 (.bool true) v24) H) ⟨fun v25 H =>
    some (AFr.al [(0, fr 0), (1, fr 1), (2, fr 2), (25, v25)], H)⟩⟩⟩⟩⟩⟩⟩⟩⟩⟩⟩⟩⟩⟩⟩⟩⟩⟩⟩)
@[simp] noncomputable def r2 (fr : AFr) (H : AHeap) : ARes :=
  areg (@opi _ (lift (some (.int .i64 50)) H) ⟨fun v6 H =>
    some (AFr.al [(6, v6)], H)⟩)
@[simp] noncomputable def r3 (fr : AFr) (H : AHeap) : ARes :=
  areg (@opi _ (lift (some (fr 0)) H) ⟨fun v26 H =>
    @opi _ (lift (anil v26) H) ⟨fun v27 H =>
    @opi _ (lift (afieldAddrR (some 1) v27) H) ⟨fun v28 H =>
    @opi _ (lift (aloadR (some none) v28 H) H) ⟨fun v29 H =>
    @opi _ (lift (some (fr 1)) H) ⟨fun v30 H =>
    @opi _ (lift (abinR .x .sub v30 (W32 536870912#32)) H) ⟨fun v31 H =>
    @opi _ (lift (abinR .x .quo v31 (W32 4#32)) H) ⟨fun v32 H =>
    @opi _ (lift (some (fr 0)) H) ⟨fun v33 H =>
    @opi _ (lift (some (fr 2)) H) ⟨fun v34 H =>
    @opi _ (lift (some (fr 2)) H) ⟨fun v35 H =>
    @opi _ (lift (aindexAddrR (.sl 1) v29 v32) H) ⟨fun v36 H =>
    @opi _ (liftS (astoreR (some 1) v36 v34 H)) ⟨fun _ H =>
    @opi _ (lift (anil v33) H) ⟨fun v37 H =>
    @opi _ (lift (afieldAddrR (some 4) v37) H) ⟨fun v38 H =>
    @opi _ (liftS (astoreR (some 1) v38 v35 H)) ⟨fun _ H =>
    some (AFr.al [], H)⟩⟩⟩⟩⟩⟩⟩⟩⟩⟩⟩⟩⟩⟩⟩)
@[simp] noncomputable def r4 (fr : AFr) (H : AHeap) : ARes :=
  areg (@opi _ (lift (some (.int .i64 0)) H) ⟨fun v6 H =>
    some (AFr.al [(6, v6)], H)⟩)
@[simp] noncomputable def body (fr : AFr) (H : AHeap) : ARes :=
  @aseqi (r0 fr H) ⟨fun fr H =>
  @aseqi (@aseqi (r1 fr H) ⟨fun fr H =>
  @acondi (fr 25)
    ⟨@aseqi (r2 fr H) ⟨fun fr H =>
    some (.ret, fr, H)⟩⟩
    ⟨some (.normal, fr, H)⟩⟩) ⟨fun fr H =>
  @aseqi (r3 fr H) ⟨fun fr H =>
  @aseqi (r4 fr H) ⟨fun fr H =>
  some (.ret, fr, H)⟩⟩⟩⟩
@[simp] def res (fr : AFr) (H : AHeap) : Option (List AV) := res2 (some (fr 6)) (some [])
end ref05_Mem_Store
noncomputable def ref05_Mem_Store (a0 a1 a2 : AV) (H : AHeap) : Option (AV × AHeap) := forget H (afinR ref05_Mem_Store.res (ref05_Mem_Store.body (args0 [a0, a1, a2]) H))
noncomputable def ref05_Mem_Store.spec : List AV → AHeap → Option (AV × AHeap)
  | [a0, a1, a2], H => ref05_Mem_Store a0 a1 a2 H
  | _, _ => none

/-! (*bauta/bautaref05.Mem).Fetch: function 32 -/
namespace ref05_Mem_Fetch
noncomputable def C : Tab := Tab.none
@[simp] noncomputable def r0 (fr : AFr) (H : AHeap) : ARes :=
  areg (@opi _ (lift (some (W16 0#16)) H) ⟨fun v4 H =>
    @opi _ (lift (some (.int .i64 0)) H) ⟨fun v5 H =>
    some (AFr.al [(0, fr 0), (1, fr 1)], H)⟩⟩)
@[simp] noncomputable def r1 (fr : AFr) (H : AHeap) : ARes :=
  areg (@opi _ (lift (some (fr 1)) H) ⟨fun v6 H =>
    @opi _ (lift (abinR .x .rem v6 (W32 2#32)) H) ⟨fun v7 H =>
    @opi _ (lift (abinR .x .neq v7 (W32 0#32)) H) ⟨fun v8 H =>
    @opi _ (lift (some v8) H) ⟨fun v9 H =>
    @opi _ (@gdi (gw v9 false) ⟨lift (some (fr 1)) H⟩ H) ⟨fun v10 H =>
    @opi _ (@gdi (gw v9 false) ⟨lift (abinR .x .quo v10 (W32 2#32)) H⟩ H) ⟨fun v11 H =>
    @opi _ (@gdi (gw v9 false) ⟨lift (aconvR (some .i64) v11) H⟩ H) ⟨fun v12 H =>
    @opi _ (@gdi (gw v9 false) ⟨lift (some (fr 0)) H⟩ H) ⟨fun v13 H =>
    @opi _ (@gdi (gw v9 false) ⟨lift (anil v13) H⟩ H) ⟨fun v14 H =>
    @opi _ (@gdi (gw v9 false) ⟨lift (afieldAddrR (some 0) v14) H⟩ H) ⟨fun v15 H =>
    @opi _ (@gdi (gw v9 false) ⟨lift (aloadR (some none) v15 H) H⟩ H) ⟨fun v16 H =>
    @opi _ (@gdi (gw v9 false) ⟨lift (alenR .sl v16) H⟩ H) ⟨fun v17 H =>
    @opi _ (@gdi (gw v9 false) ⟨lift (abinR .x .geq v12 v17) H⟩ H) ⟨fun v18 H =>
    @opi _ (lift (apick v9 (.bool true) v18) H) ⟨fun v19 H =>
    some (AFr.al [(0, fr 0), (1, fr 1), (19, v19)], H)⟩⟩⟩⟩⟩⟩⟩⟩⟩⟩⟩⟩⟩⟩)
@[simp] noncomputable def r2 (fr : AFr) (H : AHeap) : ARes :=
  areg (@opi _ (lift (some (W16 0#16)) H) ⟨fun v4 H =>
    @opi _ (lift (some (.int .i64 50)) H) ⟨fun v5 H =>
    some (AFr.al [(4, v4), (5, v5)], H)⟩⟩)
@[simp] noncomputable def r3 (fr : AFr) (H : AHeap) : ARes :=
  areg (@opi _ (lift (some (fr 0)) H) ⟨fun v20 H =>
    @opi _ (lift (anil v20) H) ⟨fun v21 H =>
    @opi _ (lift (afieldAddrR (some 0) v21) H) ⟨fun v22 H =>
    @opi _ (lift (aloadR (some none) v22 H) H) ⟨fun v23 H =>
    @opi _ (lift (some (fr 1)) H) ⟨fun v24 H =>
    @opi _ (lift (abinR .x .quo v24 (W32 2#32)) H) ⟨fun v25 H =>
    @opi _ (lift (aindexAddrR (.sl 1) v23 v25) H) ⟨fun v26 H =>
    @opi _ (lift (aloadR (some none) v26 H) H) ⟨fun v27 H =>
    @opi _ (lift (some v27) H) ⟨fun v4 H =>
    @opi _ (lift (some (.int .i64 0)) H) ⟨fun v5 H =>
    some (AFr.al [(4, v4), (5, v5)], H)⟩⟩⟩⟩⟩⟩⟩⟩⟩⟩)
@[simp] noncomputable def body (fr : AFr) (H : AHeap) : ARes :=
  @aseqi (r0 fr H) ⟨fun fr H =>
  @aseqi (@aseqi (r1 fr H) ⟨fun fr H =>
  @acondi (fr 19)
    ⟨@aseqi (r2 fr H) ⟨fun fr H =>
    some (.ret, fr, H)⟩⟩
    ⟨some (.normal, fr, H)⟩⟩) ⟨fun fr H =>
  @aseqi (r3 fr H) ⟨fun fr H =>
  some (.ret, fr, H)⟩⟩⟩
@[simp] def res (fr : AFr) (H : AHeap) : Option (List AV) := res2 (some (fr 4)) (res2 (some (fr 5)) (some []))
end ref05_Mem_Fetch
noncomputable def ref05_Mem_Fetch (a0 a1 : AV) (H : AHeap) : Option (AV × AHeap) := forget H (afinR ref05_Mem_Fetch.res (ref05_Mem_Fetch.body (args0 [a0, a1]) H))
noncomputable def ref05_Mem_Fetch.spec : List AV → AHeap → Option (AV × AHeap)
  | [a0, a1], H => ref05_Mem_Fetch a0 a1 H
  | _, _ => none

/-! (*bauta/mem.Mem).there: function 62 -/
namespace mem_Mem_there
noncomputable def C : Tab := Tab.none
@[simp] noncomputable def r0 (fr : AFr) (H : AHeap) : ARes :=
  areg (@opi _ (lift (some (.bool false)) H) ⟨fun v4 H =>
    some (AFr.al [(0, fr 0), (1, fr 1)], H)⟩)
@[simp] noncomputable def r1 (fr : AFr) (H : AHeap) : ARes :=
  areg (@opi _ (lift (some (fr 1)) H) ⟨fun v5 H =>
    @opi _ (lift (abinR .x .geq v5 (.int .i64 0)) H) ⟨fun v6 H =>
    @opi _ (lift (some v6) H) ⟨fun v7 H =>
    @opi _ (@gdi (gw v7 true) ⟨lift (some (fr 1)) H⟩ H) ⟨fun v8 H =>
    @opi _ (@gdi (gw v7 true) ⟨lift (some (fr 0)) H⟩ H) ⟨fun v9 H =>
    @opi _ (@gdi (gw v7 true) ⟨lift (anil v9) H⟩ H) ⟨fun v10 H =>
    @opi _ (@gdi (gw v7 true) ⟨lift (afieldAddrR (some 1) v10) H⟩ H) ⟨fun v11 H =>
    @opi _ (@gdi (gw v7 true) ⟨lift (aloadR (some none) v11 H) H⟩ H) ⟨fun v12 H =>
    @opi _ (@gdi (gw v7 true) ⟨lift (alenR .sl v12) H⟩ H) ⟨fun v13 H =>
    @opi _ (@gdi (gw v7 true) ⟨lift (abinR .x .lss v8 v13) H⟩ H) ⟨fun v14 H =>
    @opi _ (lift (apick v7 v14 (.bool false)) H) ⟨fun v15 H =>
    @opi _ (lift (some v15) H) ⟨fun v4 H =>
    some (AFr.al [(4, v4)], H)⟩⟩⟩⟩⟩⟩⟩⟩⟩⟩⟩⟩)
@[simp] noncomputable def body (fr : AFr) (H : AHeap) : ARes :=
  @aseqi (r0 fr H) ⟨fun fr H =>
  @aseqi (r1 fr H) ⟨fun fr H =>
  some (.ret, fr, H)⟩⟩
@[simp] def res (fr : AFr) (H : AHeap) : Option (List AV) := res2 (some (fr 4)) (some [])
end mem_Mem_there
noncomputable def mem_Mem_there (a0 a1 : AV) (H : AHeap) : Option (AV × AHeap) := forget H (afinR mem_Mem_there.res (mem_Mem_there.body (args0 [a0, a1]) H))
noncomputable def mem_Mem_there.spec : List AV → AHeap → Option (AV × AHeap)
  | [a0, a1], H => mem_Mem_there a0 a1 H
  | _, _ => none

/-! (*bauta/mem.Mem).Set: function 33 -/
namespace mem_Mem_Set
noncomputable def C (s0 : SpecM) : Tab := (Tab.none.add 62 (.ref [false, false] s0))
@[simp] noncomputable def r0 (s0 : SpecM) (fr : AFr) (H : AHeap) : ARes :=
  areg (@opi _ (lift (some (.bool false)) H) ⟨fun v6 H =>
    some (AFr.al [(0, fr 0), (1, fr 1), (2, fr 2)], H)⟩)
@[simp] noncomputable def r1 (s0 : SpecM) (fr : AFr) (H : AHeap) : ARes :=
  areg (@opi _ (lift (some (fr 0)) H) ⟨fun v7 H =>
    @opi _ (lift (some (fr 1)) H) ⟨fun v8 H =>
    @opi _ (callM [false, false] s0 [[none], [none]] [v7, v8] H) ⟨fun v9 H =>
    @opi _ (lift (aun .not v9) H) ⟨fun v10 H =>
    some (AFr.al [(0, fr 0), (1, fr 1), (2, fr 2), (10, v10)], H)⟩⟩⟩⟩)
@[simp] noncomputable def r2 (s0 : SpecM) (fr : AFr) (H : AHeap) : ARes :=
  areg (@opi _ (lift (some (.bool false)) H) ⟨fun v6 H =>
    some (AFr.al [(6, v6)], H)⟩)
@[simp] noncomputable def r3 (s0 : SpecM) (fr : AFr) (H : AHeap) : ARes :=
  areg (@opi _ (lift (some (fr 0)) H) ⟨fun v11 H =>
    @opi _ (lift (anil v11) H) ⟨fun v12 H =>
    @opi _ (lift (afieldAddrR (some 1) v12) H) ⟨fun v13 H =>
    @opi _ (lift (aloadR (some none) v13 H) H) ⟨fun v14 H =>
    @opi _ (lift (some (fr 1)) H) ⟨fun v15 H =>
    @opi _ (lift (some (fr 2)) H) ⟨fun v16 H =>
    @opi _ (lift (aindexAddrR (.sl 1) v14 v15) H) ⟨fun v17 H =>
    @opi _ (liftS (astoreR (some 1) v17 v16 H)) ⟨fun _ H =>
    some (AFr.al [], H)⟩⟩⟩⟩⟩⟩⟩⟩)
@[simp] noncomputable def r4 (s0 : SpecM) (fr : AFr) (H : AHeap) : ARes :=
  areg (@opi _ (lift (some (.bool true)) H) ⟨fun v6 H =>
    some (AFr.al [(6, v6)], H)⟩)
@[simp] noncomputable def body (s0 : SpecM) (fr : AFr) (H : AHeap) : ARes :=
  @aseqi (r0 s0 fr H) ⟨fun fr H =>
  @aseqi (@aseqi (r1 s0 fr H) ⟨fun fr H =>
  @acondi (fr 10)
    ⟨@aseqi (r2 s0 fr H) ⟨fun fr H =>
    some (.ret, fr, H)⟩⟩
    ⟨some (.normal, fr, H)⟩⟩) ⟨fun fr H =>
  @aseqi (r3 s0 fr H) ⟨fun fr H =>
  @aseqi (r4 s0 fr H) ⟨fun fr H =>
  some (.ret, fr, H)⟩⟩⟩⟩
@[simp] def res (fr : AFr) (H : AHeap) : Option (List AV) := res2 (some (fr 6)) (some [])
end mem_Mem_Set
noncomputable def mem_Mem_Set (a0 a1 a2 : AV) (H : AHeap) : Option (AV × AHeap) := forget H (afinR mem_Mem_Set.res (mem_Mem_Set.body mem_Mem_there.spec (args0 [a0, a1, a2]) H))
noncomputable def mem_Mem_Set.spec : List AV → AHeap → Option (AV × AHeap)
  | [a0, a1, a2], H => mem_Mem_Set a0 a1 a2 H
  | _, _ => none

/-! (*bauta/mem.Mem).Words: function 35 -/
namespace mem_Mem_Words
noncomputable def C (s0 : SpecP) : Tab := (Tab.none.add 59 (.pure true s0))
@[simp] noncomputable def r0 (s0 : SpecP) (fr : AFr) (H : AHeap) : ARes :=
  areg (@opi _ (lift (some .nils) H) ⟨fun v2 H =>
    some (AFr.al [(0, fr 0)], H)⟩)
@[simp] noncomputable def r1 (s0 : SpecP) (fr : AFr) (H : AHeap) : ARes :=
  areg (@opi _ (lift (some (fr 0)) H) ⟨fun v3 H =>
    @opi _ (lift (anil v3) H) ⟨fun v4 H =>
    @opi _ (lift (afieldAddrR (some 1) v4) H) ⟨fun v5 H =>
    @opi _ (lift (aloadR (some none) v5 H) H) ⟨fun v6 H =>
    @opi _ (callP true s0 [[some 1]] [v6] H) ⟨fun v7 H =>
    @opi _ (lift (some v7) H) ⟨fun v2 H =>
    some (AFr.al [(2, v2)], H)⟩⟩⟩⟩⟩⟩)
@[simp] noncomputable def body (s0 : SpecP) (fr : AFr) (H : AHeap) : ARes :=
  @aseqi (r0 s0 fr H) ⟨fun fr H =>
  @aseqi (r1 s0 fr H) ⟨fun fr H =>
  some (.ret, fr, H)⟩⟩
@[simp] def res (fr : AFr) (H : AHeap) : Option (List AV) := res2 (some (fr 2)) (some [])
end mem_Mem_Words
noncomputable def mem_Mem_Words (a0 : AV) (H : AHeap) : Option (AV × AHeap) := forget H (afinR mem_Mem_Words.res (mem_Mem_Words.body slices_Clone_uint32.spec (args0 [a0]) H))
noncomputable def mem_Mem_Words.spec : List AV → AHeap → Option (AV × AHeap)
  | [a0], H => mem_Mem_Words a0 H
  | _, _ => none

/-! bauta/bautaref05.Same: function 34 -/
namespace ref05_Same
noncomputable def C : Tab := Tab.none
@[simp] noncomputable def r0 (fr : AFr) (H : AHeap) : ARes :=
  areg (@opi _ (lift (some (.bool false)) H) ⟨fun v4 H =>
    some (AFr.al [(0, fr 0), (1, fr 1)], H)⟩)
@[simp] noncomputable def r1 (fr : AFr) (H : AHeap) : ARes :=
  areg (@opi _ (lift (some (fr 0)) H) ⟨fun v6 H =>
    @opi _ (lift (alenR .sl v6) H) ⟨fun v7 H =>
    @opi _ (lift (some (fr 1)) H) ⟨fun v8 H =>
    @opi _ (lift (alenR .sl v8) H) ⟨fun v9 H =>
    @opi _ (lift (abinR .x .neq v7 v9) H) ⟨fun v10 H =>
    some (AFr.al [(0, fr 0), (1, fr 1), (10, v10)], H)⟩⟩⟩⟩⟩)
@[simp] noncomputable def r2 (fr : AFr) (H : AHeap) : ARes :=
  areg (@opi _ (lift (some (.bool false)) H) ⟨fun v4 H =>
    some (AFr.al [(4, v4)], H)⟩)
@[simp] noncomputable def r3 (fr : AFr) (H : AHeap) : ARes :=
  areg (@opi _ (lift (some (.int .i64 0)) H) ⟨fun v5 H =>
    some (AFr.al [(0, fr 0), (1, fr 1), (5, v5)], H)⟩)
@[simp] noncomputable def r4 (fr : AFr) (H : AHeap) : ARes :=
  areg (@opi _ (lift (some (fr 5)) H) ⟨fun v11 H =>
    @opi _ (lift (some (fr 0)) H) ⟨fun v12 H =>
    @opi _ (lift (alenR .sl v12) H) ⟨fun v13 H =>
    @opi _ (lift (abinR .x .lss v11 v13) H) ⟨fun v14 H =>
    some (AFr.al [(0, fr 0), (1, fr 1), (5, fr 5), (14, v14)], H)⟩⟩⟩⟩)
@[simp] noncomputable def r6 (fr : AFr) (H : AHeap) : ARes :=
  areg (@opi _ (lift (some (fr 0)) H) ⟨fun v17 H1 =>
    @opi _ (lift (some (fr 5)) H1) ⟨fun v18 H2 =>
    @opi _ (lift (aindexAddrR (.sl 1) v17 v18) H2) ⟨fun v19 H3 =>
    @opi _ (lift (aloadR (some none) v19 H3) H3) ⟨fun v20 H4 =>
    @opi _ (lift (some (fr 1)) H4) ⟨fun v21 H5 =>
    @opi _ (lift (some (fr 5)) H5) ⟨fun v22 H6 =>
    @opi _ (lift (aindexAddrR (.sl 1) v21 v22) H6) ⟨fun v23 H7 =>
    @opi _ (lift (aloadR (some none) v23 H7) H7) ⟨fun v24 H8 =>
    @opi _ (lift (abinR .x .neq v20 v24) H8) ⟨fun v25 H9 =>
    some (AFr.al [(0, fr 0), (1, fr 1), (5, fr 5), (25, v25)], H9)⟩⟩⟩⟩⟩⟩⟩⟩⟩)
@[simp] noncomputable def r7 (fr : AFr) (H : AHeap) : ARes :=
  areg (@opi _ (lift (some (.bool false)) H) ⟨fun v4 H =>
    some (AFr.al [(4, v4)], H)⟩)
@[simp] noncomputable def r5 (fr : AFr) (H : AHeap) : ARes :=
  areg (@opi _ (lift (some (fr 5)) H) ⟨fun v15 H =>
    @opi _ (lift (abinR .x .add v15 (.int .i64 1)) H) ⟨fun v16 H =>
    @opi _ (lift (some v16) H) ⟨fun v5 H =>
    some (AFr.al [(0, fr 0), (1, fr 1), (5, v5)], H)⟩⟩⟩)
@[simp] noncomputable def r8 (fr : AFr) (H : AHeap) : ARes :=
  areg (@opi _ (lift (some (.bool true)) H) ⟨fun v4 H =>
    some (AFr.al [(4, v4)], H)⟩)
noncomputable def l0 (fr : AFr) (H : AHeap) : ARes :=
  @aseqi (@aseqi (r4 fr H) ⟨fun fr H =>
  @acondi (fr 14)
    ⟨some (.normal, fr, H)⟩
    ⟨some (.exit 0, fr, H)⟩⟩) ⟨fun fr H =>
  @aseqi (aexit 1 (@aseqi (r6 fr H) ⟨fun fr H =>
  @acondi (fr 25)
    ⟨@aseqi (r7 fr H) ⟨fun fr H =>
    some (.ret, fr, H)⟩⟩
    ⟨some (.normal, fr, H)⟩⟩)) ⟨fun fr H =>
  r5 fr H⟩⟩
@[simp] noncomputable def body (fr : AFr) (H : AHeap) : ARes :=
  @aseqi (r0 fr H) ⟨fun fr H =>
  @aseqi (@aseqi (r1 fr H) ⟨fun fr H =>
  @acondi (fr 10)
    ⟨@aseqi (r2 fr H) ⟨fun fr H =>
    some (.ret, fr, H)⟩⟩
    ⟨some (.normal, fr, H)⟩⟩) ⟨fun fr H =>
  @aseqi (@aseqi (r3 fr H) ⟨fun fr H =>
  aexit 0 (aloop (l0) fr H)⟩) ⟨fun fr H =>
  @aseqi (r8 fr H) ⟨fun fr H =>
  some (.ret, fr, H)⟩⟩⟩⟩
@[simp] def res (fr : AFr) (H : AHeap) : Option (List AV) := res2 (some (fr 4)) (some [])
end ref05_Same
noncomputable def ref05_Same (a0 a1 : AV) : Option AV := closeUpR (some [[none]]) (afinR ref05_Same.res (ref05_Same.body (args0 [a0, a1]) AHeap.empty))
noncomputable def ref05_Same.spec : List AV → Option AV
  | [a0, a1] => ref05_Same a0 a1
  | _ => none

/-! bauta/bautalaw05.MemActs: function 7 -/
namespace law05_MemActs
noncomputable def C (s0 : SpecP) (s1 : SpecM) (s2 : SpecM) (s3 : SpecM) (s4 : SpecM) (s5 : SpecM) (s6 : SpecM) (s7 : SpecM) (s8 : SpecM) (s9 : SpecM) (s10 : SpecM) (s11 : SpecM) (s12 : SpecM) (s13 : SpecP) (s14 : SpecP) : Tab := (((((((((((((((Tab.none.add 20 (.pure false s0)).add 21 (.ref [true, false, true] s1)).add 28 (.ref [true, false, true] s2)).add 22 (.ref [false, false] s3)).add 29 (.ref [false, false] s4)).add 30 (.ref [false, false, false] s5)).add 31 (.ref [false, false, false] s6)).add 26 (.ref [false, false] s7)).add 32 (.ref [false, false] s8)).add 33 (.ref [false, false, false] s9)).add 23 (.ref [false] s10)).add 24 (.ref [false] s11)).add 35 (.ref [false] s12)).add 34 (.pure false s13)).add 25 (.pure false s14))
@[simp] noncomputable def r0 (s0 : SpecP) (s1 : SpecM) (s2 : SpecM) (s3 : SpecM) (s4 : SpecM) (s5 : SpecM) (s6 : SpecM) (s7 : SpecM) (s8 : SpecM) (s9 : SpecM) (s10 : SpecM) (s11 : SpecM) (s12 : SpecM) (s13 : SpecP) (s14 : SpecP) (fr : AFr) (H : AHeap) : ARes :=
  areg (@opi _ (lift (some (.bool false)) H) ⟨fun v6 H =>
    some (AFr.al [(0, fr 0), (1, fr 1), (2, fr 2)], H)⟩)
@[simp] noncomputable def r1 (s0 : SpecP) (s1 : SpecM) (s2 : SpecM) (s3 : SpecM) (s4 : SpecM) (s5 : SpecM) (s6 : SpecM) (s7 : SpecM) (s8 : SpecM) (s9 : SpecM) (s10 : SpecM) (s11 : SpecM) (s12 : SpecM) (s13 : SpecP) (s14 : SpecP) (fr : AFr) (H : AHeap) : ARes :=
  areg (@opi _ (lift (some (fr 0)) H) ⟨fun v22 H =>
    @opi _ (lift (some (fr 1)) H) ⟨fun v23 H =>
    @opi _ (callP false s0 [[some 1], [some 1]] [v22, v23] H) ⟨fun v24 H =>
    @opi _ (lift (some v24) H) ⟨fun v21 H =>
    @opi _ (lift (aextract v21 0) H) ⟨fun v25 H =>
    @opi _ (lift (aextract v21 1) H) ⟨fun v26 H =>
    @opi _ (lift (some v25) H) ⟨fun v0 H =>
    @opi _ (lift (some v26) H) ⟨fun v1 H =>
    some (AFr.al [(0, v0), (1, v1), (2, fr 2)], H)⟩⟩⟩⟩⟩⟩⟩⟩)
@[simp] noncomputable def r2 (s0 : SpecP) (s1 : SpecM) (s2 : SpecM) (s3 : SpecM) (s4 : SpecM) (s5 : SpecM) (s6 : SpecM) (s7 : SpecM) (s8 : SpecM) (s9 : SpecM) (s10 : SpecM) (s11 : SpecM) (s12 : SpecM) (s13 : SpecP) (s14 : SpecP) (fr : AFr) (H : AHeap) : ARes :=
  areg (@opi _ (lift (some (fr 0)) H) ⟨fun v27 H =>
    @opi _ (lift (some (fr 1)) H) ⟨fun v28 H =>
    @opi _ (callM [true, false, true] s1 [[some 1], [none], [some 1]] [v27, (.int .i64 9), v28] H) ⟨fun v29 H =>
    @opi _ (lift (some (fr 0)) H) ⟨fun v30 H =>
    @opi _ (lift (some (fr 1)) H) ⟨fun v31 H =>
    @opi _ (callM [true, false, true] s2 [[some 1], [none], [some 1]] [v30, (.int .i64 9), v31] H) ⟨fun v32 H =>
    @opi _ (lift (some v29) H) ⟨fun v7 H =>
    @opi _ (lift (some v32) H) ⟨fun v8 H =>
    some (AFr.al [(2, fr 2), (7, v7), (8, v8)], H)⟩⟩⟩⟩⟩⟩⟩⟩)
@[simp] noncomputable def r3 (s0 : SpecP) (s1 : SpecM) (s2 : SpecM) (s3 : SpecM) (s4 : SpecM) (s5 : SpecM) (s6 : SpecM) (s7 : SpecM) (s8 : SpecM) (s9 : SpecM) (s10 : SpecM) (s11 : SpecM) (s12 : SpecM) (s13 : SpecP) (s14 : SpecP) (fr : AFr) (H : AHeap) : ARes :=
  areg (@opi _ (lift (some (fr 7)) H) ⟨fun v33 H =>
    @opi _ (lift (abinR .p .eql v33 .nilp) H) ⟨fun v34 H =>
    some (AFr.al [(2, fr 2), (7, fr 7), (8, fr 8), (34, v34)], H)⟩⟩)
@[simp] noncomputable def r4 (s0 : SpecP) (s1 : SpecM) (s2 : SpecM) (s3 : SpecM) (s4 : SpecM) (s5 : SpecM) (s6 : SpecM) (s7 : SpecM) (s8 : SpecM) (s9 : SpecM) (s10 : SpecM) (s11 : SpecM) (s12 : SpecM) (s13 : SpecP) (s14 : SpecP) (fr : AFr) (H : AHeap) : ARes :=
  areg (@opi _ (lift (some (.bool false)) H) ⟨fun v6 H =>
    some (AFr.al [(6, v6)], H)⟩)
@[simp] noncomputable def r5 (s0 : SpecP) (s1 : SpecM) (s2 : SpecM) (s3 : SpecM) (s4 : SpecM) (s5 : SpecM) (s6 : SpecM) (s7 : SpecM) (s8 : SpecM) (s9 : SpecM) (s10 : SpecM) (s11 : SpecM) (s12 : SpecM) (s13 : SpecP) (s14 : SpecP) (fr : AFr) (H : AHeap) : ARes :=
  areg (@opi _ (lift (some (.int .i64 0)) H) ⟨fun v9 H =>
    some (AFr.al [(2, fr 2), (7, fr 7), (8, fr 8), (9, v9)], H)⟩)
@[simp] noncomputable def r6 (s0 : SpecP) (s1 : SpecM) (s2 : SpecM) (s3 : SpecM) (s4 : SpecM) (s5 : SpecM) (s6 : SpecM) (s7 : SpecM) (s8 : SpecM) (s9 : SpecM) (s10 : SpecM) (s11 : SpecM) (s12 : SpecM) (s13 : SpecP) (s14 : SpecP) (fr : AFr) (H : AHeap) : ARes :=
  areg (@opi _ (lift (some (fr 9)) H) ⟨fun v35 H =>
    @opi _ (lift (some (fr 2)) H) ⟨fun v36 H =>
    @opi _ (lift (alenR .sl v36) H) ⟨fun v37 H =>
    @opi _ (lift (abinR .x .lss v35 v37) H) ⟨fun v38 H =>
    @opi _ (lift (some v38) H) ⟨fun v39 H =>
    @opi _ (@gdi (gw v39 true) ⟨lift (some (fr 9)) H⟩ H) ⟨fun v40 H =>
    @opi _ (@gdi (gw v39 true) ⟨lift (abinR .x .lss v40 (.int .i64 60)) H⟩ H) ⟨fun v41 H =>
    @opi _ (lift (apick v39 v41 (.bool false)) H) ⟨fun v42 H =>
    some (AFr.al [(2, fr 2), (7, fr 7), (8, fr 8), (9, fr 9), (42, v42)], H)⟩⟩⟩⟩⟩⟩⟩⟩)
@[simp] noncomputable def r8 (s0 : SpecP) (s1 : SpecM) (s2 : SpecM) (s3 : SpecM) (s4 : SpecM) (s5 : SpecM) (s6 : SpecM) (s7 : SpecM) (s8 : SpecM) (s9 : SpecM) (s10 : SpecM) (s11 : SpecM) (s12 : SpecM) (s13 : SpecP) (s14 : SpecP) (fr : AFr) (H : AHeap) : ARes :=
  areg (@opi _ (lift (some (fr 2)) H) ⟨fun v45 H =>
    @opi _ (lift (some (fr 9)) H) ⟨fun v46 H =>
    @opi _ (lift (aindexAddrR (.sl 3) v45 v46) H) ⟨fun v47 H =>
    @opi _ (lift (aloadR (some (some 3)) v47 H) H) ⟨fun v48 H =>
    @opi _ (aallocR T.ty_bautalaw05_Act (some (.agg [(.int .i64 0), (W32 0#32), (W32 0#32)])) H) ⟨fun v10 H =>
    @opi _ (liftS (astoreR (some 3) v10 v48 H)) ⟨fun _ H =>
    some (AFr.al [(2, fr 2), (7, fr 7), (8, fr 8), (9, fr 9), (10, v10)], H)⟩⟩⟩⟩⟩⟩)
@[simp] noncomputable def r9 (s0 : SpecP) (s1 : SpecM) (s2 : SpecM) (s3 : SpecM) (s4 : SpecM) (s5 : SpecM) (s6 : SpecM) (s7 : SpecM) (s8 : SpecM) (s9 : SpecM) (s10 : SpecM) (s11 : SpecM) (s12 : SpecM) (s13 : SpecP) (s14 : SpecP) (fr : AFr) (H : AHeap) : ARes :=
  areg (@opi _ (lift (some (.bool true)) H) ⟨fun v11 H =>
    some (AFr.al [(2, fr 2), (7, fr 7), (8, fr 8), (9, fr 9), (10, fr 10)], H)⟩)
@[simp] noncomputable def r10 (s0 : SpecP) (s1 : SpecM) (s2 : SpecM) (s3 : SpecM) (s4 : SpecM) (s5 : SpecM) (s6 : SpecM) (s7 : SpecM) (s8 : SpecM) (s9 : SpecM) (s10 : SpecM) (s11 : SpecM) (s12 : SpecM) (s13 : SpecP) (s14 : SpecP) (fr : AFr) (H : AHeap) : ARes :=
  areg (@opi _ (lift (afieldAddrR (some 0) (fr 10)) H) ⟨fun v49 H =>
    @opi _ (lift (aloadR (some none) v49 H) H) ⟨fun v50 H =>
    some (AFr.al [(2, fr 2), (7, fr 7), (8, fr 8), (9, fr 9), (10, fr 10), (50, v50)], H)⟩⟩)
@[simp] noncomputable def r12 (s0 : SpecP) (s1 : SpecM) (s2 : SpecM) (s3 : SpecM) (s4 : SpecM) (s5 : SpecM) (s6 : SpecM) (s7 : SpecM) (s8 : SpecM) (s9 : SpecM) (s10 : SpecM) (s11 : SpecM) (s12 : SpecM) (s13 : SpecP) (s14 : SpecP) (fr : AFr) (H : AHeap) : ARes :=
  areg (@opi _ (lift (abinR .x .eql (fr 50) (.int .i64 0)) H) ⟨fun v52 H =>
    @opi _ (lift (some v52) H) ⟨fun v51 H =>
    some (AFr.al [(2, fr 2), (7, fr 7), (8, fr 8), (9, fr 9), (10, fr 10), (50, fr 50), (51, v51)], H)⟩⟩)
@[simp] noncomputable def r13 (s0 : SpecP) (s1 : SpecM) (s2 : SpecM) (s3 : SpecM) (s4 : SpecM) (s5 : SpecM) (s6 : SpecM) (s7 : SpecM) (s8 : SpecM) (s9 : SpecM) (s10 : SpecM) (s11 : SpecM) (s12 : SpecM) (s13 : SpecP) (s14 : SpecP) (fr : AFr) (H : AHeap) : ARes :=
  areg (@opi _ (lift (some (fr 7)) H) ⟨fun v54 H =>
    @opi _ (lift (afieldAddrR (some 1) (fr 10)) H) ⟨fun v55 H =>
    @opi _ (lift (aloadR (some none) v55 H) H) ⟨fun v56 H =>
    @opi _ (callM [false, false] s3 [[none], [none]] [v54, v56] H) ⟨fun v57 H =>
    @opi _ (lift (some v57) H) ⟨fun v53 H =>
    @opi _ (lift (aextract v53 0) H) ⟨fun v58 H =>
    @opi _ (lift (aextract v53 1) H) ⟨fun v59 H =>
    @opi _ (lift (some v58) H) ⟨fun v12 H =>
    @opi _ (lift (some v59) H) ⟨fun v13 H =>
    some (AFr.al [(2, fr 2), (7, fr 7), (8, fr 8), (9, fr 9), (10, fr 10), (12, v12), (13, v13)], H)⟩⟩⟩⟩⟩⟩⟩⟩⟩)
@[simp] noncomputable def r14 (s0 : SpecP) (s1 : SpecM) (s2 : SpecM) (s3 : SpecM) (s4 : SpecM) (s5 : SpecM) (s6 : SpecM) (s7 : SpecM) (s8 : SpecM) (s9 : SpecM) (s10 : SpecM) (s11 : SpecM) (s12 : SpecM) (s13 : SpecP) (s14 : SpecP) (fr : AFr) (H : AHeap) : ARes :=
  areg (@opi _ (lift (some (fr 8)) H) ⟨fun v61 H =>
    @opi _ (lift (afieldAddrR (some 1) (fr 10)) H) ⟨fun v62 H =>
    @opi _ (lift (aloadR (some none) v62 H) H) ⟨fun v63 H =>
    @opi _ (callM [false, false] s4 [[none], [none]] [v61, v63] H) ⟨fun v64 H =>
    @opi _ (lift (some v64) H) ⟨fun v60 H =>
    @opi _ (lift (aextract v60 0) H) ⟨fun v65 H =>
    @opi _ (lift (aextract v60 1) H) ⟨fun v66 H =>
    @opi _ (lift (some v65) H) ⟨fun v14 H =>
    @opi _ (lift (some v66) H) ⟨fun v15 H =>
    some (AFr.al [(2, fr 2), (7, fr 7), (8, fr 8), (9, fr 9), (12, fr 12), (13, fr 13), (14, v14), (15, v15)], H)⟩⟩⟩⟩⟩⟩⟩⟩⟩)
@[simp] noncomputable def r15 (s0 : SpecP) (s1 : SpecM) (s2 : SpecM) (s3 : SpecM) (s4 : SpecM) (s5 : SpecM) (s6 : SpecM) (s7 : SpecM) (s8 : SpecM) (s9 : SpecM) (s10 : SpecM) (s11 : SpecM) (s12 : SpecM) (s13 : SpecP) (s14 : SpecP) (fr : AFr) (H : AHeap) : ARes :=
  areg (@opi _ (lift (some (fr 12)) H) ⟨fun v67 H =>
    @opi _ (lift (some (fr 14)) H) ⟨fun v68 H =>
    @opi _ (lift (abinR .x .eql v67 v68) H) ⟨fun v69 H =>
    @opi _ (lift (some v69) H) ⟨fun v70 H =>
    @opi _ (@gdi (gw v70 true) ⟨lift (some (fr 13)) H⟩ H) ⟨fun v71 H =>
    @opi _ (@gdi (gw v70 true) ⟨lift (some (fr 15)) H⟩ H) ⟨fun v72 H =>
    @opi _ (@gdi (gw v70 true) ⟨lift (abinR .x .eql v71 v72) H⟩ H) ⟨fun v73 H =>
    @opi _ (lift (apick v70 v73 (.bool false)) H) ⟨fun v74 H =>
    @opi _ (lift (some v74) H) ⟨fun v11 H =>
    some (AFr.al [(2, fr 2), (7, fr 7), (8, fr 8), (9, fr 9), (11, v11)], H)⟩⟩⟩⟩⟩⟩⟩⟩⟩)
@[simp] noncomputable def r16 (s0 : SpecP) (s1 : SpecM) (s2 : SpecM) (s3 : SpecM) (s4 : SpecM) (s5 : SpecM) (s6 : SpecM) (s7 : SpecM) (s8 : SpecM) (s9 : SpecM) (s10 : SpecM) (s11 : SpecM) (s12 : SpecM) (s13 : SpecP) (s14 : SpecP) (fr : AFr) (H : AHeap) : ARes :=
  areg (@opi _ (lift (abinR .x .eql (fr 50) (.int .i64 1)) H) ⟨fun v76 H =>
    @opi _ (lift (some v76) H) ⟨fun v75 H =>
    some (AFr.al [(2, fr 2), (7, fr 7), (8, fr 8), (9, fr 9), (10, fr 10), (50, fr 50), (75, v75)], H)⟩⟩)
@[simp] noncomputable def r17 (s0 : SpecP) (s1 : SpecM) (s2 : SpecM) (s3 : SpecM) (s4 : SpecM) (s5 : SpecM) (s6 : SpecM) (s7 : SpecM) (s8 : SpecM) (s9 : SpecM) (s10 : SpecM) (s11 : SpecM) (s12 : SpecM) (s13 : SpecP) (s14 : SpecP) (fr : AFr) (H : AHeap) : ARes :=
  areg (@opi _ (lift (some (fr 7)) H) ⟨fun v77 H1 =>
    @opi _ (lift (afieldAddrR (some 1) (fr 10)) H1) ⟨fun v78 H2 =>
    @opi _ (lift (aloadR (some none) v78 H2) H2) ⟨fun v79 H3 =>
    @opi _ (lift (afieldAddrR (some 2) (fr 10)) H3) ⟨fun v80 H4 =>
    @opi _ (lift (aloadR (some none) v80 H4) H4) ⟨fun v81 H5 =>
    @opi _ (san H5 (callM [false, false, false] s5 [[none], [none], [none]] [v77, v79, v81] H5)) ⟨fun v82 H6 =>
    @opi _ (lift (some (fr 8)) H6) ⟨fun v83 H7 =>
    @opi _ (lift (afieldAddrR (some 1) (fr 10)) H7) ⟨fun v84 H8 =>
    @opi _ (lift (aloadR (some none) v84 H8) H8) ⟨fun v85 H9 =>
    @opi _ (lift (afieldAddrR (some 2) (fr 10)) H9) ⟨fun v86 H10 =>
    @opi _ (lift (aloadR (some none) v86 H10) H10) ⟨fun v87 H11 =>
    @opi _ (san H11 (callM [false, false, false] s6 [[none], [none], [none]] [v83, v85, v87] H11)) ⟨fun v88 H12 =>
    @opi _ (lift (abinR .x .eql v82 v88) H12) ⟨fun v89 H13 =>
    @opi _ (lift (some v89) H13) ⟨fun v11 H14 =>
    withChk [aloadR (some none) v84 H5 = aloadR (some none) v84 H6, aloadR (some none) v86 H5 = aloadR (some none) v86 H6] (some (AFr.al [(2, fr 2), (7, fr 7), (8, fr 8), (9, fr 9), (11, v11)], H14))⟩⟩⟩⟩⟩⟩⟩⟩⟩⟩⟩⟩⟩⟩)
@[simp] noncomputable def r18 (s0 : SpecP) (s1 : SpecM) (s2 : SpecM) (s3 : SpecM) (s4 : SpecM) (s5 : SpecM) (s6 : SpecM) (s7 : SpecM) (s8 : SpecM) (s9 : SpecM) (s10 : SpecM) (s11 : SpecM) (s12 : SpecM) (s13 : SpecP) (s14 : SpecP) (fr : AFr) (H : AHeap) : ARes :=
  areg (@opi _ (lift (abinR .x .eql (fr 50) (.int .i64 2)) H) ⟨fun v91 H =>
    @opi _ (lift (some v91) H) ⟨fun v90 H =>
    some (AFr.al [(2, fr 2), (7, fr 7), (8, fr 8), (9, fr 9), (10, fr 10), (50, fr 50), (90, v90)], H)⟩⟩)
@[simp] noncomputable def r19 (s0 : SpecP) (s1 : SpecM) (s2 : SpecM) (s3 : SpecM) (s4 : SpecM) (s5 : SpecM) (s6 : SpecM) (s7 : SpecM) (s8 : SpecM) (s9 : SpecM) (s10 : SpecM) (s11 : SpecM) (s12 : SpecM) (s13 : SpecP) (s14 : SpecP) (fr : AFr) (H : AHeap) : ARes :=
  areg (@opi _ (lift (some (fr 7)) H) ⟨fun v93 H =>
    @opi _ (lift (afieldAddrR (some 1) (fr 10)) H) ⟨fun v94 H =>
    @opi _ (lift (aloadR (some none) v94 H) H) ⟨fun v95 H =>
    @opi _ (callM [false, false] s7 [[none], [none]] [v93, v95] H) ⟨fun v96 H =>
    @opi _ (lift (some v96) H) ⟨fun v92 H =>
    @opi _ (lift (aextract v92 0) H) ⟨fun v97 H =>
    @opi _ (lift (aextract v92 1) H) ⟨fun v98 H =>
    @opi _ (lift (some v97) H) ⟨fun v16 H =>
    @opi _ (lift (some v98) H) ⟨fun v17 H =>
    some (AFr.al [(2, fr 2), (7, fr 7), (8, fr 8), (9, fr 9), (10, fr 10), (16, v16), (17, v17)], H)⟩⟩⟩⟩⟩⟩⟩⟩⟩)
@[simp] noncomputable def r20 (s0 : SpecP) (s1 : SpecM) (s2 : SpecM) (s3 : SpecM) (s4 : SpecM) (s5 : SpecM) (s6 : SpecM) (s7 : SpecM) (s8 : SpecM) (s9 : SpecM) (s10 : SpecM) (s11 : SpecM) (s12 : SpecM) (s13 : SpecP) (s14 : SpecP) (fr : AFr) (H : AHeap) : ARes :=
  areg (@opi _ (lift (some (fr 8)) H) ⟨fun v100 H =>
    @opi _ (lift (afieldAddrR (some 1) (fr 10)) H) ⟨fun v101 H =>
    @opi _ (lift (aloadR (some none) v101 H) H) ⟨fun v102 H =>
    @opi _ (callM [false, false] s8 [[none], [none]] [v100, v102] H) ⟨fun v103 H =>
    @opi _ (lift (some v103) H) ⟨fun v99 H =>
    @opi _ (lift (aextract v99 0) H) ⟨fun v104 H =>
    @opi _ (lift (aextract v99 1) H) ⟨fun v105 H =>
    @opi _ (lift (some v104) H) ⟨fun v18 H =>
    @opi _ (lift (some v105) H) ⟨fun v19 H =>
    some (AFr.al [(2, fr 2), (7, fr 7), (8, fr 8), (9, fr 9), (16, fr 16), (17, fr 17), (18, v18), (19, v19)], H)⟩⟩⟩⟩⟩⟩⟩⟩⟩)
@[simp] noncomputable def r21 (s0 : SpecP) (s1 : SpecM) (s2 : SpecM) (s3 : SpecM) (s4 : SpecM) (s5 : SpecM) (s6 : SpecM) (s7 : SpecM) (s8 : SpecM) (s9 : SpecM) (s10 : SpecM) (s11 : SpecM) (s12 : SpecM) (s13 : SpecP) (s14 : SpecP) (fr : AFr) (H : AHeap) : ARes :=
  areg (@opi _ (lift (some (fr 16)) H) ⟨fun v106 H =>
    @opi _ (lift (some (fr 18)) H) ⟨fun v107 H =>
    @opi _ (lift (abinR .x .eql v106 v107) H) ⟨fun v108 H =>
    @opi _ (lift (some v108) H) ⟨fun v109 H =>
    @opi _ (@gdi (gw v109 true) ⟨lift (some (fr 17)) H⟩ H) ⟨fun v110 H =>
    @opi _ (@gdi (gw v109 true) ⟨lift (some (fr 19)) H⟩ H) ⟨fun v111 H =>
    @opi _ (@gdi (gw v109 true) ⟨lift (abinR .x .eql v110 v111) H⟩ H) ⟨fun v112 H =>
    @opi _ (lift (apick v109 v112 (.bool false)) H) ⟨fun v113 H =>
    @opi _ (lift (some v113) H) ⟨fun v11 H =>
    some (AFr.al [(2, fr 2), (7, fr 7), (8, fr 8), (9, fr 9), (11, v11)], H)⟩⟩⟩⟩⟩⟩⟩⟩⟩)
@[simp] noncomputable def r22 (s0 : SpecP) (s1 : SpecM) (s2 : SpecM) (s3 : SpecM) (s4 : SpecM) (s5 : SpecM) (s6 : SpecM) (s7 : SpecM) (s8 : SpecM) (s9 : SpecM) (s10 : SpecM) (s11 : SpecM) (s12 : SpecM) (s13 : SpecP) (s14 : SpecP) (fr : AFr) (H : AHeap) : ARes :=
  areg (@opi _ (lift (abinR .x .eql (fr 50) (.int .i64 3)) H) ⟨fun v115 H =>
    @opi _ (lift (some v115) H) ⟨fun v114 H =>
    some (AFr.al [(2, fr 2), (7, fr 7), (8, fr 8), (9, fr 9), (10, fr 10), (114, v114)], H)⟩⟩)
@[simp] noncomputable def r23 (s0 : SpecP) (s1 : SpecM) (s2 : SpecM) (s3 : SpecM) (s4 : SpecM) (s5 : SpecM) (s6 : SpecM) (s7 : SpecM) (s8 : SpecM) (s9 : SpecM) (s10 : SpecM) (s11 : SpecM) (s12 : SpecM) (s13 : SpecP) (s14 : SpecP) (fr : AFr) (H : AHeap) : ARes :=
  areg (@opi _ (lift (afieldAddrR (some 1) (fr 10)) H) ⟨fun v116 H =>
    @opi _ (lift (aloadR (some none) v116 H) H) ⟨fun v117 H =>
    @opi _ (lift (abinR .x .rem v117 (W32 12#32)) H) ⟨fun v118 H =>
    @opi _ (lift (aconvR (some .i64) v118) H) ⟨fun v119 H =>
    @opi _ (lift (some v119) H) ⟨fun v20 H =>
    some (AFr.al [(2, fr 2), (7, fr 7), (8, fr 8), (9, fr 9), (10, fr 10), (20, v20)], H)⟩⟩⟩⟩⟩)
@[simp] noncomputable def r24 (s0 : SpecP) (s1 : SpecM) (s2 : SpecM) (s3 : SpecM) (s4 : SpecM) (s5 : SpecM) (s6 : SpecM) (s7 : SpecM) (s8 : SpecM) (s9 : SpecM) (s10 : SpecM) (s11 : SpecM) (s12 : SpecM) (s13 : SpecP) (s14 : SpecP) (fr : AFr) (H : AHeap) : ARes :=
  areg (@opi _ (lift (some (fr 7)) H) ⟨fun v120 H =>
    @opi _ (lift (some (fr 20)) H) ⟨fun v121 H =>
    @opi _ (lift (afieldAddrR (some 2) (fr 10)) H) ⟨fun v122 H =>
    @opi _ (lift (aloadR (some none) v122 H) H) ⟨fun v123 H =>
    @opi _ (callM [false, false, false] s9 [[none], [none], [none]] [v120, v121, v123] H) ⟨fun v124 H =>
    @opi _ (lift (some (fr 20)) H) ⟨fun v125 H =>
    @opi _ (lift (abinR .x .lss v125 (.int .i64 9)) H) ⟨fun v126 H =>
    @opi _ (lift (abinR .b .eql v124 v126) H) ⟨fun v127 H =>
    @opi _ (lift (some v127) H) ⟨fun v11 H =>
    some (AFr.al [(2, fr 2), (7, fr 7), (8, fr 8), (9, fr 9), (10, fr 10), (11, v11), (20, fr 20)], H)⟩⟩⟩⟩⟩⟩⟩⟩⟩)
@[simp] noncomputable def r25 (s0 : SpecP) (s1 : SpecM) (s2 : SpecM) (s3 : SpecM) (s4 : SpecM) (s5 : SpecM) (s6 : SpecM) (s7 : SpecM) (s8 : SpecM) (s9 : SpecM) (s10 : SpecM) (s11 : SpecM) (s12 : SpecM) (s13 : SpecP) (s14 : SpecP) (fr : AFr) (H : AHeap) : ARes :=
  areg (@opi _ (lift (some (fr 20)) H) ⟨fun v128 H =>
    @opi _ (lift (abinR .x .lss v128 (.int .i64 9)) H) ⟨fun v129 H =>
    some (AFr.al [(2, fr 2), (7, fr 7), (8, fr 8), (9, fr 9), (10, fr 10), (11, fr 11), (20, fr 20), (129, v129)], H)⟩⟩)
@[simp] noncomputable def r26 (s0 : SpecP) (s1 : SpecM) (s2 : SpecM) (s3 : SpecM) (s4 : SpecM) (s5 : SpecM) (s6 : SpecM) (s7 : SpecM) (s8 : SpecM) (s9 : SpecM) (s10 : SpecM) (s11 : SpecM) (s12 : SpecM) (s13 : SpecP) (s14 : SpecP) (fr : AFr) (H : AHeap) : ARes :=
  areg (@opi _ (lift (some (fr 8)) H) ⟨fun v130 H1 =>
    @opi _ (lift (anil v130) H1) ⟨fun v131 H2 =>
    @opi _ (lift (afieldAddrR (some 1) v131) H2) ⟨fun v132 H3 =>
    @opi _ (lift (aloadR (some none) v132 H3) H3) ⟨fun v133 H4 =>
    @opi _ (lift (some (fr 20)) H4) ⟨fun v134 H5 =>
    @opi _ (lift (afieldAddrR (some 2) (fr 10)) H5) ⟨fun v135 H6 =>
    @opi _ (lift (aloadR (some none) v135 H6) H6) ⟨fun v136 H7 =>
    @opi _ (lift (aindexAddrR (.sl 1) v133 v134) H7) ⟨fun v137 H8 =>
    @opi _ (liftS (astoreR (some 1) v137 v136 H8)) ⟨fun _ H9 =>
    some (AFr.al [(2, fr 2), (7, fr 7), (8, fr 8), (9, fr 9), (11, fr 11)], H9)⟩⟩⟩⟩⟩⟩⟩⟩⟩)
@[simp] noncomputable def r11 (s0 : SpecP) (s1 : SpecM) (s2 : SpecM) (s3 : SpecM) (s4 : SpecM) (s5 : SpecM) (s6 : SpecM) (s7 : SpecM) (s8 : SpecM) (s9 : SpecM) (s10 : SpecM) (s11 : SpecM) (s12 : SpecM) (s13 : SpecP) (s14 : SpecP) (fr : AFr) (H : AHeap) : ARes :=
  areg (@opi _ (lift (some (.bool true)) H) ⟨fun v11 H =>
    some (AFr.al [(2, fr 2), (7, fr 7), (8, fr 8), (9, fr 9), (11, v11)], H)⟩)
@[simp] noncomputable def r27 (s0 : SpecP) (s1 : SpecM) (s2 : SpecM) (s3 : SpecM) (s4 : SpecM) (s5 : SpecM) (s6 : SpecM) (s7 : SpecM) (s8 : SpecM) (s9 : SpecM) (s10 : SpecM) (s11 : SpecM) (s12 : SpecM) (s13 : SpecP) (s14 : SpecP) (fr : AFr) (H : AHeap) : ARes :=
  areg (@opi _ (lift (some (fr 11)) H) ⟨fun v138 H1 =>
    @opi _ (lift (aun .not v138) H1) ⟨fun v139 H2 =>
    @opi _ (lift (some v139) H2) ⟨fun v140 H3 =>
    @opi _ (@gdi (gw v140 false) ⟨lift (some (fr 7)) H3⟩ H3) ⟨fun v141 H4 =>
    @opi _ (san H4 (@gdi (gw v140 false) ⟨callM [false] s10 [[none]] [v141] H4⟩ H4)) ⟨fun v142 H5 =>
    @opi _ (@gdi (gw v140 false) ⟨lift (some (fr 8)) H5⟩ H5) ⟨fun v143 H6 =>
    @opi _ (@gdi (gw v140 false) ⟨lift (anil v143) H6⟩ H6) ⟨fun v144 H7 =>
    @opi _ (@gdi (gw v140 false) ⟨lift (afieldAddrR (some 4) v144) H7⟩ H7) ⟨fun v145 H8 =>
    @opi _ (@gdi (gw v140 false) ⟨lift (aloadR (some none) v145 H8) H8⟩ H8) ⟨fun v146 H9 =>
    @opi _ (@gdi (gw v140 false) ⟨lift (abinR .x .neq v142 v146) H9⟩ H9) ⟨fun v147 H10 =>
    @opi _ (lift (apick v140 (.bool true) v147) H10) ⟨fun v148 H11 =>
    @opi _ (lift (some v148) H11) ⟨fun v149 H12 =>
    @opi _ (@gdi (gw v149 false) ⟨lift (some (fr 7)) H12⟩ H12) ⟨fun v150 H13 =>
    @opi _ (san H13 (@gdi (gw v149 false) ⟨callM [false] s11 [[none]] [v150] H13⟩ H13)) ⟨fun v151 H14 =>
    @opi _ (@gdi (gw v149 false) ⟨lift (some (fr 8)) H14⟩ H14) ⟨fun v152 H15 =>
    @opi _ (@gdi (gw v149 false) ⟨lift (anil v152) H15⟩ H15) ⟨fun v153 H16 =>
    @opi _ (@gdi (gw v149 false) ⟨lift (afieldAddrR (some 3) v153) H16⟩ H16) ⟨fun v154 H17 =>
    @opi _ (@gdi (gw v149 false) ⟨lift (aloadR (some none) v154 H17) H17⟩ H17) ⟨fun v155 H18 =>
    @opi _ (@gdi (gw v149 false) ⟨lift (abinR .x .neq v151 v155) H18⟩ H18) ⟨fun v156 H19 =>
    @opi _ (lift (apick v149 (.bool true) v156) H19) ⟨fun v157 H20 =>
    @opi _ (lift (some v157) H20) ⟨fun v158 H21 =>
    @opi _ (@gdi (gw v158 false) ⟨lift (some (fr 7)) H21⟩ H21) ⟨fun v159 H22 =>
    @opi _ (san H22 (@gdi (gw v158 false) ⟨callM [false] s12 [[none]] [v159] H22⟩ H22)) ⟨fun v160 H23 =>
    @opi _ (@gdi (gw v158 false) ⟨lift (some (fr 8)) H23⟩ H23) ⟨fun v161 H24 =>
    @opi _ (@gdi (gw v158 false) ⟨lift (anil v161) H24⟩ H24) ⟨fun v162 H25 =>
    @opi _ (@gdi (gw v158 false) ⟨lift (afieldAddrR (some 1) v162) H25⟩ H25) ⟨fun v163 H26 =>
    @opi _ (@gdi (gw v158 false) ⟨lift (aloadR (some none) v163 H26) H26⟩ H26) ⟨fun v164 H27 =>
    @opi _ (@gdi (gw v158 false) ⟨callP false s13 [[some 1], [some 1]] [v160, v164] H27⟩ H27) ⟨fun v165 H28 =>
    @opi _ (@gdi (gw v158 false) ⟨lift (aun .not v165) H28⟩ H28) ⟨fun v166 H29 =>
    @opi _ (lift (apick v158 (.bool true) v166) H29) ⟨fun v167 H30 =>
    withChk [aloadR (some none) v145 H4 = aloadR (some none) v145 H5, aloadR (some none) v154 H13 = aloadR (some none) v154 H14, aloadR (some none) v163 H22 = aloadR (some none) v163 H23] (some (AFr.al [(2, fr 2), (7, fr 7), (8, fr 8), (9, fr 9), (167, v167)], H30))⟩⟩⟩⟩⟩⟩⟩⟩⟩⟩⟩⟩⟩⟩⟩⟩⟩⟩⟩⟩⟩⟩⟩⟩⟩⟩⟩⟩⟩⟩)
@[simp] noncomputable def r28 (s0 : SpecP) (s1 : SpecM) (s2 : SpecM) (s3 : SpecM) (s4 : SpecM) (s5 : SpecM) (s6 : SpecM) (s7 : SpecM) (s8 : SpecM) (s9 : SpecM) (s10 : SpecM) (s11 : SpecM) (s12 : SpecM) (s13 : SpecP) (s14 : SpecP) (fr : AFr) (H : AHeap) : ARes :=
  areg (@opi _ (lift (some (.bool false)) H) ⟨fun v6 H =>
    some (AFr.al [(6, v6)], H)⟩)
@[simp] noncomputable def r7 (s0 : SpecP) (s1 : SpecM) (s2 : SpecM) (s3 : SpecM) (s4 : SpecM) (s5 : SpecM) (s6 : SpecM) (s7 : SpecM) (s8 : SpecM) (s9 : SpecM) (s10 : SpecM) (s11 : SpecM) (s12 : SpecM) (s13 : SpecP) (s14 : SpecP) (fr : AFr) (H : AHeap) : ARes :=
  areg (@opi _ (lift (some (fr 9)) H) ⟨fun v43 H =>
    @opi _ (lift (abinR .x .add v43 (.int .i64 1)) H) ⟨fun v44 H =>
    @opi _ (lift (some v44) H) ⟨fun v9 H =>
    some (AFr.al [(2, fr 2), (7, fr 7), (8, fr 8), (9, v9)], H)⟩⟩⟩)
@[simp] noncomputable def r29 (s0 : SpecP) (s1 : SpecM) (s2 : SpecM) (s3 : SpecM) (s4 : SpecM) (s5 : SpecM) (s6 : SpecM) (s7 : SpecM) (s8 : SpecM) (s9 : SpecM) (s10 : SpecM) (s11 : SpecM) (s12 : SpecM) (s13 : SpecP) (s14 : SpecP) (fr : AFr) (H : AHeap) : ARes :=
  areg (@opi _ (callP false s14 [] [] H) ⟨fun v168 H =>
    @opi _ (lift (some v168) H) ⟨fun v6 H =>
    some (AFr.al [(6, v6)], H)⟩⟩)
noncomputable def l0 (s0 : SpecP) (s1 : SpecM) (s2 : SpecM) (s3 : SpecM) (s4 : SpecM) (s5 : SpecM) (s6 : SpecM) (s7 : SpecM) (s8 : SpecM) (s9 : SpecM) (s10 : SpecM) (s11 : SpecM) (s12 : SpecM) (s13 : SpecP) (s14 : SpecP) (fr : AFr) (H : AHeap) : ARes :=
  @aseqi (@aseqi (r6 s0 s1 s2 s3 s4 s5 s6 s7 s8 s9 s10 s11 s12 s13 s14 fr H) ⟨fun fr H =>
  @acondi (fr 42)
    ⟨some (.normal, fr, H)⟩
    ⟨some (.exit 0, fr, H)⟩⟩) ⟨fun fr H =>
  @aseqi (aexit 1 (@aseqi (r8 s0 s1 s2 s3 s4 s5 s6 s7 s8 s9 s10 s11 s12 s13 s14 fr H) ⟨fun fr H =>
  @aseqi (r9 s0 s1 s2 s3 s4 s5 s6 s7 s8 s9 s10 s11 s12 s13 s14 fr H) ⟨fun fr H =>
  @aseqi (@aseqi (r10 s0 s1 s2 s3 s4 s5 s6 s7 s8 s9 s10 s11 s12 s13 s14 fr H) ⟨fun fr H =>
  aexit 2 (@aseqi (r12 s0 s1 s2 s3 s4 s5 s6 s7 s8 s9 s10 s11 s12 s13 s14 fr H) ⟨fun fr H =>
  @acondi (fr 51)
    ⟨@aseqi (r13 s0 s1 s2 s3 s4 s5 s6 s7 s8 s9 s10 s11 s12 s13 s14 fr H) ⟨fun fr H =>
    @aseqi (r14 s0 s1 s2 s3 s4 s5 s6 s7 s8 s9 s10 s11 s12 s13 s14 fr H) ⟨fun fr H =>
    r15 s0 s1 s2 s3 s4 s5 s6 s7 s8 s9 s10 s11 s12 s13 s14 fr H⟩⟩⟩
    ⟨@aseqi (r16 s0 s1 s2 s3 s4 s5 s6 s7 s8 s9 s10 s11 s12 s13 s14 fr H) ⟨fun fr H =>
    @acondi (fr 75)
      ⟨r17 s0 s1 s2 s3 s4 s5 s6 s7 s8 s9 s10 s11 s12 s13 s14 fr H⟩
      ⟨@aseqi (r18 s0 s1 s2 s3 s4 s5 s6 s7 s8 s9 s10 s11 s12 s13 s14 fr H) ⟨fun fr H =>
      @acondi (fr 90)
        ⟨@aseqi (r19 s0 s1 s2 s3 s4 s5 s6 s7 s8 s9 s10 s11 s12 s13 s14 fr H) ⟨fun fr H =>
        @aseqi (r20 s0 s1 s2 s3 s4 s5 s6 s7 s8 s9 s10 s11 s12 s13 s14 fr H) ⟨fun fr H =>
        r21 s0 s1 s2 s3 s4 s5 s6 s7 s8 s9 s10 s11 s12 s13 s14 fr H⟩⟩⟩
        ⟨@aseqi (r22 s0 s1 s2 s3 s4 s5 s6 s7 s8 s9 s10 s11 s12 s13 s14 fr H) ⟨fun fr H =>
        @acondi (fr 114)
          ⟨@aseqi (r23 s0 s1 s2 s3 s4 s5 s6 s7 s8 s9 s10 s11 s12 s13 s14 fr H) ⟨fun fr H =>
          @aseqi (r24 s0 s1 s2 s3 s4 s5 s6 s7 s8 s9 s10 s11 s12 s13 s14 fr H) ⟨fun fr H =>
          @aseqi (r25 s0 s1 s2 s3 s4 s5 s6 s7 s8 s9 s10 s11 s12 s13 s14 fr H) ⟨fun fr H =>
          @acondi (fr 129)
            ⟨r26 s0 s1 s2 s3 s4 s5 s6 s7 s8 s9 s10 s11 s12 s13 s14 fr H⟩
            ⟨some (.normal, fr, H)⟩⟩⟩⟩⟩
          ⟨r11 s0 s1 s2 s3 s4 s5 s6 s7 s8 s9 s10 s11 s12 s13 s14 fr H⟩⟩⟩⟩⟩⟩⟩⟩)⟩) ⟨fun fr H =>
  @aseqi (r27 s0 s1 s2 s3 s4 s5 s6 s7 s8 s9 s10 s11 s12 s13 s14 fr H) ⟨fun fr H =>
  @acondi (fr 167)
    ⟨@aseqi (r28 s0 s1 s2 s3 s4 s5 s6 s7 s8 s9 s10 s11 s12 s13 s14 fr H) ⟨fun fr H =>
    some (.ret, fr, H)⟩⟩
    ⟨some (.normal, fr, H)⟩⟩⟩⟩⟩)) ⟨fun fr H =>
  r7 s0 s1 s2 s3 s4 s5 s6 s7 s8 s9 s10 s11 s12 s13 s14 fr H⟩⟩
@[simp] noncomputable def body (s0 : SpecP) (s1 : SpecM) (s2 : SpecM) (s3 : SpecM) (s4 : SpecM) (s5 : SpecM) (s6 : SpecM) (s7 : SpecM) (s8 : SpecM) (s9 : SpecM) (s10 : SpecM) (s11 : SpecM) (s12 : SpecM) (s13 : SpecP) (s14 : SpecP) (fr : AFr) (H : AHeap) : ARes :=
  @aseqi (r0 s0 s1 s2 s3 s4 s5 s6 s7 s8 s9 s10 s11 s12 s13 s14 fr H) ⟨fun fr H =>
  @aseqi (r1 s0 s1 s2 s3 s4 s5 s6 s7 s8 s9 s10 s11 s12 s13 s14 fr H) ⟨fun fr H =>
  @aseqi (r2 s0 s1 s2 s3 s4 s5 s6 s7 s8 s9 s10 s11 s12 s13 s14 fr H) ⟨fun fr H =>
  @aseqi (@aseqi (r3 s0 s1 s2 s3 s4 s5 s6 s7 s8 s9 s10 s11 s12 s13 s14 fr H) ⟨fun fr H =>
  @acondi (fr 34)
    ⟨@aseqi (r4 s0 s1 s2 s3 s4 s5 s6 s7 s8 s9 s10 s11 s12 s13 s14 fr H) ⟨fun fr H =>
    some (.ret, fr, H)⟩⟩
    ⟨some (.normal, fr, H)⟩⟩) ⟨fun fr H =>
  @aseqi (@aseqi (r5 s0 s1 s2 s3 s4 s5 s6 s7 s8 s9 s10 s11 s12 s13 s14 fr H) ⟨fun fr H =>
  aexit 0 (aloop (l0 s0 s1 s2 s3 s4 s5 s6 s7 s8 s9 s10 s11 s12 s13 s14) fr H)⟩) ⟨fun fr H =>
  @aseqi (r29 s0 s1 s2 s3 s4 s5 s6 s7 s8 s9 s10 s11 s12 s13 s14 fr H) ⟨fun fr H =>
  some (.ret, fr, H)⟩⟩⟩⟩⟩⟩
@[simp] def res (fr : AFr) (H : AHeap) : Option (List AV) := res2 (some (fr 6)) (some [])
end law05_MemActs
noncomputable def law05_MemActs (a0 a1 a2 : AV) : Option AV := closeUpR (some [[none]]) (afinR law05_MemActs.res (law05_MemActs.body law05_short.spec mem_New.spec ref05_New.spec mem_Mem_Load.spec ref05_Mem_Load.spec mem_Mem_Store.spec ref05_Mem_Store.spec mem_Mem_Fetch.spec ref05_Mem_Fetch.spec mem_Mem_Set.spec mem_Mem_Bus.spec mem_Mem_Drawn.spec mem_Mem_Words.spec ref05_Same.spec law05_lives.spec (args0 [a0, a1, a2]) AHeap.empty))
noncomputable def law05_MemActs.spec : List AV → Option AV
  | [a0, a1, a2] => law05_MemActs a0 a1 a2
  | _ => none

/-! (*bauta/mem.Mem).Word: function 36 -/
namespace mem_Mem_Word
noncomputable def C (s0 : SpecM) : Tab := (Tab.none.add 62 (.ref [false, false] s0))
@[simp] noncomputable def r0 (s0 : SpecM) (fr : AFr) (H : AHeap) : ARes :=
  areg (@opi _ (lift (some (W32 0#32)) H) ⟨fun v4 H =>
    @opi _ (lift (some (.bool false)) H) ⟨fun v5 H =>
    some (AFr.al [(0, fr 0), (1, fr 1)], H)⟩⟩)
@[simp] noncomputable def r1 (s0 : SpecM) (fr : AFr) (H : AHeap) : ARes :=
  areg (@opi _ (lift (some (fr 0)) H) ⟨fun v6 H =>
    @opi _ (lift (some (fr 1)) H) ⟨fun v7 H =>
    @opi _ (callM [false, false] s0 [[none], [none]] [v6, v7] H) ⟨fun v8 H =>
    @opi _ (lift (aun .not v8) H) ⟨fun v9 H =>
    some (AFr.al [(0, fr 0), (1, fr 1), (9, v9)], H)⟩⟩⟩⟩)
@[simp] noncomputable def r2 (s0 : SpecM) (fr : AFr) (H : AHeap) : ARes :=
  areg (@opi _ (lift (some (W32 0#32)) H) ⟨fun v4 H =>
    @opi _ (lift (some (.bool false)) H) ⟨fun v5 H =>
    some (AFr.al [(4, v4), (5, v5)], H)⟩⟩)
@[simp] noncomputable def r3 (s0 : SpecM) (fr : AFr) (H : AHeap) : ARes :=
  areg (@opi _ (lift (some (fr 0)) H) ⟨fun v10 H =>
    @opi _ (lift (anil v10) H) ⟨fun v11 H =>
    @opi _ (lift (afieldAddrR (some 1) v11) H) ⟨fun v12 H =>
    @opi _ (lift (aloadR (some none) v12 H) H) ⟨fun v13 H =>
    @opi _ (lift (some (fr 1)) H) ⟨fun v14 H =>
    @opi _ (lift (aindexAddrR (.sl 1) v13 v14) H) ⟨fun v15 H =>
    @opi _ (lift (aloadR (some none) v15 H) H) ⟨fun v16 H =>
    @opi _ (lift (some v16) H) ⟨fun v4 H =>
    @opi _ (lift (some (.bool true)) H) ⟨fun v5 H =>
    some (AFr.al [(4, v4), (5, v5)], H)⟩⟩⟩⟩⟩⟩⟩⟩⟩)
@[simp] noncomputable def body (s0 : SpecM) (fr : AFr) (H : AHeap) : ARes :=
  @aseqi (r0 s0 fr H) ⟨fun fr H =>
  @aseqi (@aseqi (r1 s0 fr H) ⟨fun fr H =>
  @acondi (fr 9)
    ⟨@aseqi (r2 s0 fr H) ⟨fun fr H =>
    some (.ret, fr, H)⟩⟩
    ⟨some (.normal, fr, H)⟩⟩) ⟨fun fr H =>
  @aseqi (r3 s0 fr H) ⟨fun fr H =>
  some (.ret, fr, H)⟩⟩⟩
@[simp] def res (fr : AFr) (H : AHeap) : Option (List AV) := res2 (some (fr 4)) (res2 (some (fr 5)) (some []))
end mem_Mem_Word
noncomputable def mem_Mem_Word (a0 a1 : AV) (H : AHeap) : Option (AV × AHeap) := forget H (afinR mem_Mem_Word.res (mem_Mem_Word.body mem_Mem_there.spec (args0 [a0, a1]) H))
noncomputable def mem_Mem_Word.spec : List AV → AHeap → Option (AV × AHeap)
  | [a0, a1], H => mem_Mem_Word a0 a1 H
  | _, _ => none

/-! bauta/bautalaw05.MemWords: function 8 -/
namespace law05_MemWords
noncomputable def C (s0 : SpecM) (s1 : SpecM) (s2 : SpecM) (s3 : SpecM) (s4 : SpecM) (s5 : SpecM) (s6 : SpecP) : Tab := (((((((Tab.none.add 21 (.ref [true, false, true] s0)).add 35 (.ref [false] s1)).add 33 (.ref [false, false, false] s2)).add 36 (.ref [false, false] s3)).add 22 (.ref [false, false] s4)).add 24 (.ref [false] s5)).add 25 (.pure false s6))
@[simp] noncomputable def r0 (s0 : SpecM) (s1 : SpecM) (s2 : SpecM) (s3 : SpecM) (s4 : SpecM) (s5 : SpecM) (s6 : SpecP) (fr : AFr) (H : AHeap) : ARes :=
  areg (@opi _ (lift (some (.bool false)) H) ⟨fun v6 H =>
    some (AFr.al [(0, fr 0), (1, fr 1), (2, fr 2)], H)⟩)
@[simp] noncomputable def r1 (s0 : SpecM) (s1 : SpecM) (s2 : SpecM) (s3 : SpecM) (s4 : SpecM) (s5 : SpecM) (s6 : SpecP) (fr : AFr) (H : AHeap) : ARes :=
  areg (@opi _ (lift (some (fr 0)) H) ⟨fun v16 H =>
    @opi _ (callM [true, false, true] s0 [[some 1], [none], [some 1]] [.nils, v16, .nils] H) ⟨fun v17 H =>
    @opi _ (lift (some v17) H) ⟨fun v7 H =>
    some (AFr.al [(0, fr 0), (1, fr 1), (2, fr 2), (7, v7)], H)⟩⟩⟩)
@[simp] noncomputable def r2 (s0 : SpecM) (s1 : SpecM) (s2 : SpecM) (s3 : SpecM) (s4 : SpecM) (s5 : SpecM) (s6 : SpecP) (fr : AFr) (H : AHeap) : ARes :=
  areg (@opi _ (lift (some (fr 7)) H) ⟨fun v18 H =>
    @opi _ (lift (abinR .p .eql v18 .nilp) H) ⟨fun v19 H =>
    some (AFr.al [(0, fr 0), (1, fr 1), (2, fr 2), (7, fr 7), (19, v19)], H)⟩⟩)
@[simp] noncomputable def r3 (s0 : SpecM) (s1 : SpecM) (s2 : SpecM) (s3 : SpecM) (s4 : SpecM) (s5 : SpecM) (s6 : SpecP) (fr : AFr) (H : AHeap) : ARes :=
  areg (@opi _ (lift (some (.bool false)) H) ⟨fun v6 H =>
    some (AFr.al [(6, v6)], H)⟩)
@[simp] noncomputable def r4 (s0 : SpecM) (s1 : SpecM) (s2 : SpecM) (s3 : SpecM) (s4 : SpecM) (s5 : SpecM) (s6 : SpecP) (fr : AFr) (H : AHeap) : ARes :=
  areg (@opi _ (lift (some (fr 0)) H) ⟨fun v20 H =>
    @opi _ (lift (some v20) H) ⟨fun v8 H =>
    some (AFr.al [(1, fr 1), (2, fr 2), (7, fr 7), (8, v8)], H)⟩⟩)
@[simp] noncomputable def r5 (s0 : SpecM) (s1 : SpecM) (s2 : SpecM) (s3 : SpecM) (s4 : SpecM) (s5 : SpecM) (s6 : SpecP) (fr : AFr) (H : AHeap) : ARes :=
  areg (@opi _ (lift (some (fr 8)) H) ⟨fun v21 H =>
    @opi _ (lift (abinR .x .lss v21 (.int .i64 0)) H) ⟨fun v22 H =>
    some (AFr.al [(1, fr 1), (2, fr 2), (7, fr 7), (8, fr 8), (22, v22)], H)⟩⟩)
@[simp] noncomputable def r6 (s0 : SpecM) (s1 : SpecM) (s2 : SpecM) (s3 : SpecM) (s4 : SpecM) (s5 : SpecM) (s6 : SpecP) (fr : AFr) (H : AHeap) : ARes :=
  areg (@opi _ (lift (some (.int .i64 0)) H) ⟨fun v8 H =>
    some (AFr.al [(1, fr 1), (2, fr 2), (7, fr 7), (8, v8)], H)⟩)
@[simp] noncomputable def r7 (s0 : SpecM) (s1 : SpecM) (s2 : SpecM) (s3 : SpecM) (s4 : SpecM) (s5 : SpecM) (s6 : SpecP) (fr : AFr) (H : AHeap) : ARes :=
  areg (@opi _ (lift (some (fr 8)) H) ⟨fun v23 H =>
    @opi _ (lift (abinR .x .gtr v23 (.int .i64 16000)) H) ⟨fun v24 H =>
    some (AFr.al [(1, fr 1), (2, fr 2), (7, fr 7), (8, fr 8), (24, v24)], H)⟩⟩)
@[simp] noncomputable def r8 (s0 : SpecM) (s1 : SpecM) (s2 : SpecM) (s3 : SpecM) (s4 : SpecM) (s5 : SpecM) (s6 : SpecP) (fr : AFr) (H : AHeap) : ARes :=
  areg (@opi _ (lift (some (.int .i64 16000)) H) ⟨fun v8 H =>
    some (AFr.al [(1, fr 1), (2, fr 2), (7, fr 7), (8, v8)], H)⟩)
@[simp] noncomputable def r9 (s0 : SpecM) (s1 : SpecM) (s2 : SpecM) (s3 : SpecM) (s4 : SpecM) (s5 : SpecM) (s6 : SpecP) (fr : AFr) (H : AHeap) : ARes :=
  areg (@opi _ (lift (some (fr 7)) H) ⟨fun v25 H =>
    @opi _ (callM [false] s1 [[none]] [v25] H) ⟨fun v26 H =>
    @opi _ (lift (some v26) H) ⟨fun v9 H =>
    some (AFr.al [(1, fr 1), (2, fr 2), (7, fr 7), (8, fr 8), (9, v9)], H)⟩⟩⟩)
@[simp] noncomputable def r10 (s0 : SpecM) (s1 : SpecM) (s2 : SpecM) (s3 : SpecM) (s4 : SpecM) (s5 : SpecM) (s6 : SpecP) (fr : AFr) (H : AHeap) : ARes :=
  areg (@opi _ (lift (some (fr 9)) H) ⟨fun v27 H =>
    @opi _ (lift (alenR .sl v27) H) ⟨fun v28 H =>
    @opi _ (lift (some (fr 8)) H) ⟨fun v29 H =>
    @opi _ (lift (abinR .x .neq v28 v29) H) ⟨fun v30 H =>
    some (AFr.al [(1, fr 1), (2, fr 2), (7, fr 7), (8, fr 8), (9, fr 9), (30, v30)], H)⟩⟩⟩⟩)
@[simp] noncomputable def r11 (s0 : SpecM) (s1 : SpecM) (s2 : SpecM) (s3 : SpecM) (s4 : SpecM) (s5 : SpecM) (s6 : SpecP) (fr : AFr) (H : AHeap) : ARes :=
  areg (@opi _ (lift (some (.bool false)) H) ⟨fun v6 H =>
    some (AFr.al [(6, v6)], H)⟩)
@[simp] noncomputable def r12 (s0 : SpecM) (s1 : SpecM) (s2 : SpecM) (s3 : SpecM) (s4 : SpecM) (s5 : SpecM) (s6 : SpecP) (fr : AFr) (H : AHeap) : ARes :=
  areg (@opi _ (lift (some (.int .i64 0)) H) ⟨fun v10 H =>
    some (AFr.al [(1, fr 1), (2, fr 2), (7, fr 7), (8, fr 8), (9, fr 9), (10, v10)], H)⟩)
@[simp] noncomputable def r13 (s0 : SpecM) (s1 : SpecM) (s2 : SpecM) (s3 : SpecM) (s4 : SpecM) (s5 : SpecM) (s6 : SpecP) (fr : AFr) (H : AHeap) : ARes :=
  areg (@opi _ (lift (some (fr 10)) H) ⟨fun v31 H =>
    @opi _ (lift (some (fr 8)) H) ⟨fun v32 H =>
    @opi _ (lift (abinR .x .lss v31 v32) H) ⟨fun v33 H =>
    some (AFr.al [(1, fr 1), (2, fr 2), (7, fr 7), (8, fr 8), (9, fr 9), (10, fr 10), (33, v33)], H)⟩⟩⟩)
@[simp] noncomputable def r15 (s0 : SpecM) (s1 : SpecM) (s2 : SpecM) (s3 : SpecM) (s4 : SpecM) (s5 : SpecM) (s6 : SpecP) (fr : AFr) (H : AHeap) : ARes :=
  areg (@opi _ (lift (some (fr 9)) H) ⟨fun v36 H =>
    @opi _ (lift (some (fr 10)) H) ⟨fun v37 H =>
    @opi _ (lift (aindexAddrR (.sl 1) v36 v37) H) ⟨fun v38 H =>
    @opi _ (lift (aloadR (some none) v38 H) H) ⟨fun v39 H =>
    @opi _ (lift (abinR .x .neq v39 (W32 0#32)) H) ⟨fun v40 H =>
    some (AFr.al [(1, fr 1), (2, fr 2), (7, fr 7), (8, fr 8), (9, fr 9), (10, fr 10), (40, v40)], H)⟩⟩⟩⟩⟩)
@[simp] noncomputable def r16 (s0 : SpecM) (s1 : SpecM) (s2 : SpecM) (s3 : SpecM) (s4 : SpecM) (s5 : SpecM) (s6 : SpecP) (fr : AFr) (H : AHeap) : ARes :=
  areg (@opi _ (lift (some (.bool false)) H) ⟨fun v6 H =>
    some (AFr.al [(6, v6)], H)⟩)
@[simp] noncomputable def r14 (s0 : SpecM) (s1 : SpecM) (s2 : SpecM) (s3 : SpecM) (s4 : SpecM) (s5 : SpecM) (s6 : SpecP) (fr : AFr) (H : AHeap) : ARes :=
  areg (@opi _ (lift (some (fr 10)) H) ⟨fun v34 H =>
    @opi _ (lift (abinR .x .add v34 (.int .i64 1)) H) ⟨fun v35 H =>
    @opi _ (lift (some v35) H) ⟨fun v10 H =>
    some (AFr.al [(1, fr 1), (2, fr 2), (7, fr 7), (8, fr 8), (9, fr 9), (10, v10)], H)⟩⟩⟩)
@[simp] noncomputable def r17 (s0 : SpecM) (s1 : SpecM) (s2 : SpecM) (s3 : SpecM) (s4 : SpecM) (s5 : SpecM) (s6 : SpecP) (fr : AFr) (H : AHeap) : ARes :=
  areg (@opi _ (lift (some (fr 7)) H) ⟨fun v41 H =>
    @opi _ (lift (some (fr 1)) H) ⟨fun v42 H =>
    @opi _ (lift (some (fr 2)) H) ⟨fun v43 H =>
    @opi _ (callM [false, false, false] s2 [[none], [none], [none]] [v41, v42, v43] H) ⟨fun v44 H =>
    @opi _ (lift (some v44) H) ⟨fun v11 H =>
    some (AFr.al [(1, fr 1), (2, fr 2), (7, fr 7), (8, fr 8), (11, v11)], H)⟩⟩⟩⟩⟩)
@[simp] noncomputable def r18 (s0 : SpecM) (s1 : SpecM) (s2 : SpecM) (s3 : SpecM) (s4 : SpecM) (s5 : SpecM) (s6 : SpecP) (fr : AFr) (H : AHeap) : ARes :=
  areg (@opi _ (lift (some (fr 7)) H) ⟨fun v46 H =>
    @opi _ (lift (some (fr 1)) H) ⟨fun v47 H =>
    @opi _ (callM [false, false] s3 [[none], [none]] [v46, v47] H) ⟨fun v48 H =>
    @opi _ (lift (some v48) H) ⟨fun v45 H =>
    @opi _ (lift (aextract v45 0) H) ⟨fun v49 H =>
    @opi _ (lift (aextract v45 1) H) ⟨fun v50 H =>
    @opi _ (lift (some v49) H) ⟨fun v12 H =>
    @opi _ (lift (some v50) H) ⟨fun v13 H =>
    some (AFr.al [(1, fr 1), (2, fr 2), (7, fr 7), (8, fr 8), (11, fr 11), (12, v12), (13, v13)], H)⟩⟩⟩⟩⟩⟩⟩⟩)
@[simp] noncomputable def r19 (s0 : SpecM) (s1 : SpecM) (s2 : SpecM) (s3 : SpecM) (s4 : SpecM) (s5 : SpecM) (s6 : SpecP) (fr : AFr) (H : AHeap) : ARes :=
  areg (@opi _ (lift (some (fr 11)) H) ⟨fun v51 H =>
    @opi _ (lift (some (fr 1)) H) ⟨fun v52 H =>
    @opi _ (lift (abinR .x .geq v52 (.int .i64 0)) H) ⟨fun v53 H =>
    @opi _ (lift (some v53) H) ⟨fun v54 H =>
    @opi _ (@gdi (gw v54 true) ⟨lift (some (fr 1)) H⟩ H) ⟨fun v55 H =>
    @opi _ (@gdi (gw v54 true) ⟨lift (some (fr 8)) H⟩ H) ⟨fun v56 H =>
    @opi _ (@gdi (gw v54 true) ⟨lift (abinR .x .lss v55 v56) H⟩ H) ⟨fun v57 H =>
    @opi _ (lift (apick v54 v57 (.bool false)) H) ⟨fun v58 H =>
    @opi _ (lift (abinR .b .neq v51 v58) H) ⟨fun v59 H =>
    @opi _ (lift (some v59) H) ⟨fun v60 H =>
    @opi _ (@gdi (gw v60 false) ⟨lift (some (fr 13)) H⟩ H) ⟨fun v61 H =>
    @opi _ (@gdi (gw v60 false) ⟨lift (some (fr 11)) H⟩ H) ⟨fun v62 H =>
    @opi _ (@gdi (gw v60 false) ⟨lift (abinR .b .neq v61 v62) H⟩ H) ⟨fun v63 H =>
    @opi _ (lift (apick v60 (.bool true) v63) H) ⟨fun v64 H =>
    @opi _ (lift (some v64) H) ⟨fun v65 H =>
    @opi _ (@gdi (gw v65 false) ⟨lift (some (fr 13)) H⟩ H) ⟨fun v66 H =>
    @opi _ (@gdi (gw v65 false) ⟨lift (some v66) H⟩ H) ⟨fun v67 H =>
    @opi _ (@gdi (gw v67 true) ⟨lift (some (fr 12)) H⟩ H) ⟨fun v68 H =>
    @opi _ (@gdi (gw v67 true) ⟨lift (some (fr 2)) H⟩ H) ⟨fun v69 H =>
    @opi _ (@gdi (gw v67 true) ⟨lift (abinR .x .neq v68 v69) H⟩ H) ⟨fun v70 H =>
    @opi _ (@gdi (gw v65 false) ⟨lift (apick v67 v70 (.bool false)) H⟩ H) ⟨fun v71 H =>
    @opi _ (lift (apick v65 (.bool true) v71) H) ⟨fun v72 H =>
    @opi _ (lift (some v72) H) ⟨fun v73 H =>
    @opi _ (@gdi (gw v73 false) ⟨lift (some (fr 13)) H⟩ H) ⟨fun v74 H =>
    @opi _ (@gdi (gw v73 false) ⟨lift (aun .not v74) H⟩ H) ⟨fun v75 H =>
    @opi _ (@gdi (gw v73 false) ⟨lift (some v75) H⟩ H) ⟨fun v76 H =>
    @opi _ (@gdi (gw v76 true) ⟨lift (some (fr 12)) H⟩ H) ⟨fun v77 H =>
    @opi _ (@gdi (gw v76 true) ⟨lift (abinR .x .neq v77 (W32 0#32)) H⟩ H) ⟨fun v78 H =>
    @opi _ (@gdi (gw v73 false) ⟨lift (apick v76 v78 (.bool false)) H⟩ H) ⟨fun v79 H =>
    @opi _ (lift (apick v73 (.bool true) v79) H) ⟨fun v80 H =>
    some (AFr.al [(1, fr 1), (2, fr 2), (7, fr 7), (8, fr 8), (80, v80)], H)⟩⟩⟩⟩⟩⟩⟩⟩⟩⟩⟩⟩⟩⟩⟩⟩⟩⟩⟩⟩⟩⟩⟩⟩⟩⟩⟩⟩⟩⟩)
@[simp] noncomputable def r20 (s0 : SpecM) (s1 : SpecM) (s2 : SpecM) (s3 : SpecM) (s4 : SpecM) (s5 : SpecM) (s6 : SpecP) (fr : AFr) (H : AHeap) : ARes :=
  areg (@opi _ (lift (some (.bool false)) H) ⟨fun v6 H =>
    some (AFr.al [(6, v6)], H)⟩)
@[simp] noncomputable def r21 (s0 : SpecM) (s1 : SpecM) (s2 : SpecM) (s3 : SpecM) (s4 : SpecM) (s5 : SpecM) (s6 : SpecP) (fr : AFr) (H : AHeap) : ARes :=
  areg (@opi _ (lift (some (fr 7)) H) ⟨fun v82 H =>
    @opi _ (lift (some (fr 1)) H) ⟨fun v83 H =>
    @opi _ (lift (abinR .x .and v83 (.int .i64 16383)) H) ⟨fun v84 H =>
    @opi _ (lift (aconvR (some .u32) v84) H) ⟨fun v85 H =>
    @opi _ (lift (abinR .x .mul (W32 4#32) v85) H) ⟨fun v86 H =>
    @opi _ (lift (abinR .x .add (W32 536870912#32) v86) H) ⟨fun v87 H =>
    @opi _ (callM [false, false] s4 [[none], [none]] [v82, v87] H) ⟨fun v88 H =>
    @opi _ (lift (some v88) H) ⟨fun v81 H =>
    @opi _ (lift (aextract v81 0) H) ⟨fun v89 H =>
    @opi _ (lift (aextract v81 1) H) ⟨fun v90 H =>
    @opi _ (lift (some v89) H) ⟨fun v14 H =>
    @opi _ (lift (some v90) H) ⟨fun v15 H =>
    some (AFr.al [(1, fr 1), (2, fr 2), (7, fr 7), (8, fr 8), (14, v14), (15, v15)], H)⟩⟩⟩⟩⟩⟩⟩⟩⟩⟩⟩⟩)
@[simp] noncomputable def r22 (s0 : SpecM) (s1 : SpecM) (s2 : SpecM) (s3 : SpecM) (s4 : SpecM) (s5 : SpecM) (s6 : SpecP) (fr : AFr) (H : AHeap) : ARes :=
  areg (@opi _ (lift (some (fr 1)) H) ⟨fun v91 H =>
    @opi _ (lift (abinR .x .lss v91 (.int .i64 0)) H) ⟨fun v92 H =>
    @opi _ (lift (some v92) H) ⟨fun v93 H =>
    @opi _ (@gdi (gw v93 false) ⟨lift (some (fr 1)) H⟩ H) ⟨fun v94 H =>
    @opi _ (@gdi (gw v93 false) ⟨lift (abinR .x .gtr v94 (.int .i64 16000)) H⟩ H) ⟨fun v95 H =>
    @opi _ (lift (apick v93 (.bool true) v95) H) ⟨fun v96 H =>
    @opi _ (lift (some v96) H) ⟨fun v97 H =>
    @opi _ (@gdi (gw v97 false) ⟨lift (some (fr 15)) H⟩ H) ⟨fun v98 H =>
    @opi _ (@gdi (gw v97 false) ⟨lift (abinR .x .eql v98 (.int .i64 0)) H⟩ H) ⟨fun v99 H =>
    @opi _ (@gdi (gw v97 false) ⟨lift (some (fr 1)) H⟩ H) ⟨fun v100 H =>
    @opi _ (@gdi (gw v97 false) ⟨lift (some (fr 8)) H⟩ H) ⟨fun v101 H =>
    @opi _ (@gdi (gw v97 false) ⟨lift (abinR .x .lss v100 v101) H⟩ H) ⟨fun v102 H =>
    @opi _ (@gdi (gw v97 false) ⟨lift (abinR .b .eql v99 v102) H⟩ H) ⟨fun v103 H =>
    @opi _ (@gdi (gw v97 false) ⟨lift (some v103) H⟩ H) ⟨fun v104 H =>
    @opi _ (@gdi (gw v104 true) ⟨lift (some (fr 15)) H⟩ H) ⟨fun v105 H =>
    @opi _ (@gdi (gw v104 true) ⟨lift (abinR .x .neq v105 (.int .i64 0)) H⟩ H) ⟨fun v106 H =>
    @opi _ (@gdi (gw v104 true) ⟨lift (some v106) H⟩ H) ⟨fun v107 H =>
    @opi _ (@gdi (gw v107 false) ⟨lift (some (fr 14)) H⟩ H) ⟨fun v108 H =>
    @opi _ (@gdi (gw v107 false) ⟨lift (some (fr 2)) H⟩ H) ⟨fun v109 H =>
    @opi _ (@gdi (gw v107 false) ⟨lift (abinR .x .eql v108 v109) H⟩ H) ⟨fun v110 H =>
    @opi _ (@gdi (gw v104 true) ⟨lift (apick v107 (.bool true) v110) H⟩ H) ⟨fun v111 H =>
    @opi _ (@gdi (gw v97 false) ⟨lift (apick v104 v111 (.bool false)) H⟩ H) ⟨fun v112 H =>
    @opi _ (lift (apick v97 (.bool true) v112) H) ⟨fun v113 H =>
    @opi _ (lift (some v113) H) ⟨fun v114 H =>
    @opi _ (@gdi (gw v114 true) ⟨lift (some (fr 7)) H⟩ H) ⟨fun v115 H =>
    @opi _ (@gdi (gw v114 true) ⟨callM [false] s5 [[none]] [v115] H⟩ H) ⟨fun v116 H =>
    @opi _ (@gdi (gw v114 true) ⟨lift (abinR .x .eql v116 (.int .i64 0)) H⟩ H) ⟨fun v117 H =>
    @opi _ (lift (apick v114 v117 (.bool false)) H) ⟨fun v118 H =>
    @opi _ (lift (some v118) H) ⟨fun v119 H =>
    @opi _ (@gdi (gw v119 true) ⟨callP false s6 [] [] H⟩ H) ⟨fun v120 H =>
    @opi _ (lift (apick v119 v120 (.bool false)) H) ⟨fun v121 H =>
    @opi _ (lift (some v121) H) ⟨fun v6 H =>
    some (AFr.al [(6, v6)], H)⟩⟩⟩⟩⟩⟩⟩⟩⟩⟩⟩⟩⟩⟩⟩⟩⟩⟩⟩⟩⟩⟩⟩⟩⟩⟩⟩⟩⟩⟩⟩⟩)
noncomputable def l0 (s0 : SpecM) (s1 : SpecM) (s2 : SpecM) (s3 : SpecM) (s4 : SpecM) (s5 : SpecM) (s6 : SpecP) (fr : AFr) (H : AHeap) : ARes :=
  @aseqi (@aseqi (r13 s0 s1 s2 s3 s4 s5 s6 fr H) ⟨fun fr H =>
  @acondi (fr 33)
    ⟨some (.normal, fr, H)⟩
    ⟨some (.exit 0, fr, H)⟩⟩) ⟨fun fr H =>
  @aseqi (aexit 1 (@aseqi (r15 s0 s1 s2 s3 s4 s5 s6 fr H) ⟨fun fr H =>
  @acondi (fr 40)
    ⟨@aseqi (r16 s0 s1 s2 s3 s4 s5 s6 fr H) ⟨fun fr H =>
    some (.ret, fr, H)⟩⟩
    ⟨some (.normal, fr, H)⟩⟩)) ⟨fun fr H =>
  r14 s0 s1 s2 s3 s4 s5 s6 fr H⟩⟩
@[simp] noncomputable def body (s0 : SpecM) (s1 : SpecM) (s2 : SpecM) (s3 : SpecM) (s4 : SpecM) (s5 : SpecM) (s6 : SpecP) (fr : AFr) (H : AHeap) : ARes :=
  @aseqi (r0 s0 s1 s2 s3 s4 s5 s6 fr H) ⟨fun fr H =>
  @aseqi (r1 s0 s1 s2 s3 s4 s5 s6 fr H) ⟨fun fr H =>
  @aseqi (@aseqi (r2 s0 s1 s2 s3 s4 s5 s6 fr H) ⟨fun fr H =>
  @acondi (fr 19)
    ⟨@aseqi (r3 s0 s1 s2 s3 s4 s5 s6 fr H) ⟨fun fr H =>
    some (.ret, fr, H)⟩⟩
    ⟨some (.normal, fr, H)⟩⟩) ⟨fun fr H =>
  @aseqi (r4 s0 s1 s2 s3 s4 s5 s6 fr H) ⟨fun fr H =>
  @aseqi (@aseqi (r5 s0 s1 s2 s3 s4 s5 s6 fr H) ⟨fun fr H =>
  @acondi (fr 22)
    ⟨r6 s0 s1 s2 s3 s4 s5 s6 fr H⟩
    ⟨some (.normal, fr, H)⟩⟩) ⟨fun fr H =>
  @aseqi (@aseqi (r7 s0 s1 s2 s3 s4 s5 s6 fr H) ⟨fun fr H =>
  @acondi (fr 24)
    ⟨r8 s0 s1 s2 s3 s4 s5 s6 fr H⟩
    ⟨some (.normal, fr, H)⟩⟩) ⟨fun fr H =>
  @aseqi (r9 s0 s1 s2 s3 s4 s5 s6 fr H) ⟨fun fr H =>
  @aseqi (@aseqi (r10 s0 s1 s2 s3 s4 s5 s6 fr H) ⟨fun fr H =>
  @acondi (fr 30)
    ⟨@aseqi (r11 s0 s1 s2 s3 s4 s5 s6 fr H) ⟨fun fr H =>
    some (.ret, fr, H)⟩⟩
    ⟨some (.normal, fr, H)⟩⟩) ⟨fun fr H =>
  @aseqi (@aseqi (r12 s0 s1 s2 s3 s4 s5 s6 fr H) ⟨fun fr H =>
  aexit 0 (aloop (l0 s0 s1 s2 s3 s4 s5 s6) fr H)⟩) ⟨fun fr H =>
  @aseqi (r17 s0 s1 s2 s3 s4 s5 s6 fr H) ⟨fun fr H =>
  @aseqi (r18 s0 s1 s2 s3 s4 s5 s6 fr H) ⟨fun fr H =>
  @aseqi (@aseqi (r19 s0 s1 s2 s3 s4 s5 s6 fr H) ⟨fun fr H =>
  @acondi (fr 80)
    ⟨@aseqi (r20 s0 s1 s2 s3 s4 s5 s6 fr H) ⟨fun fr H =>
    some (.ret, fr, H)⟩⟩
    ⟨some (.normal, fr, H)⟩⟩) ⟨fun fr H =>
  @aseqi (r21 s0 s1 s2 s3 s4 s5 s6 fr H) ⟨fun fr H =>
  @aseqi (r22 s0 s1 s2 s3 s4 s5 s6 fr H) ⟨fun fr H =>
  some (.ret, fr, H)⟩⟩⟩⟩⟩⟩⟩⟩⟩⟩⟩⟩⟩⟩
@[simp] def res (fr : AFr) (H : AHeap) : Option (List AV) := res2 (some (fr 6)) (some [])
end law05_MemWords
noncomputable def law05_MemWords (a0 a1 a2 : AV) : Option AV := closeUpR (some [[none]]) (afinR law05_MemWords.res (law05_MemWords.body mem_New.spec mem_Mem_Words.spec mem_Mem_Set.spec mem_Mem_Word.spec mem_Mem_Load.spec mem_Mem_Drawn.spec law05_lives.spec (args0 [a0, a1, a2]) AHeap.empty))
noncomputable def law05_MemWords.spec : List AV → Option AV
  | [a0, a1, a2] => law05_MemWords a0 a1 a2
  | _ => none

/-! bauta/bautalaw05.short: function 20 -/
namespace law05_short_ref
noncomputable def C : Tab := Tab.none
@[simp] noncomputable def r0 (fr : AFr) (H : AHeap) : ARes :=
  areg (@opi _ (lift (some .nils) H) ⟨fun v4 H =>
    @opi _ (lift (some .nils) H) ⟨fun v5 H =>
    some (AFr.al [(0, fr 0), (1, fr 1)], H)⟩⟩)
@[simp] noncomputable def r1 (fr : AFr) (H : AHeap) : ARes :=
  areg (@opi _ (lift (some (fr 0)) H) ⟨fun v6 H =>
    @opi _ (lift (alenR .sl v6) H) ⟨fun v7 H =>
    @opi _ (lift (abinR .x .gtr v7 (.int .i64 300)) H) ⟨fun v8 H =>
    some (AFr.al [(0, fr 0), (1, fr 1), (8, v8)], H)⟩⟩⟩)
@[simp] noncomputable def r2 (fr : AFr) (H : AHeap) : ARes :=
  areg (@opi _ (lift (some (fr 0)) H) ⟨fun v9 H =>
    @opi _ (lift (asliceR (.sl 1) v9 none (some (.int .i64 300)) none) H) ⟨fun v10 H =>
    @opi _ (lift (some v10) H) ⟨fun v0 H =>
    some (AFr.al [(0, v0), (1, fr 1)], H)⟩⟩⟩)
@[simp] noncomputable def r3 (fr : AFr) (H : AHeap) : ARes :=
  areg (@opi _ (lift (some (fr 1)) H) ⟨fun v11 H =>
    @opi _ (lift (alenR .sl v11) H) ⟨fun v12 H =>
    @opi _ (lift (abinR .x .gtr v12 (.int .i64 100)) H) ⟨fun v13 H =>
    some (AFr.al [(0, fr 0), (1, fr 1), (13, v13)], H)⟩⟩⟩)
@[simp] noncomputable def r4 (fr : AFr) (H : AHeap) : ARes :=
  areg (@opi _ (lift (some (fr 1)) H) ⟨fun v14 H =>
    @opi _ (lift (asliceR (.sl 1) v14 none (some (.int .i64 100)) none) H) ⟨fun v15 H =>
    @opi _ (lift (some v15) H) ⟨fun v1 H =>
    some (AFr.al [(0, fr 0), (1, v1)], H)⟩⟩⟩)
@[simp] noncomputable def r5 (fr : AFr) (H : AHeap) : ARes :=
  areg (@opi _ (abuildSliceR (some ⟨T.ty_uint16, 1, 2, [(W16 0#16)]⟩) 0 [] H) ⟨fun v16 H =>
    @opi _ (lift (some (fr 0)) H) ⟨fun v17 H =>
    @opi _ (aappendR (some ⟨T.ty_uint16, 1, 2, [(W16 0#16)]⟩) v16 v17 H) ⟨fun v18 H =>
    @opi _ (abuildSliceR (some ⟨T.ty_uint32, 1, 4, [(W32 0#32)]⟩) 0 [] H) ⟨fun v19 H =>
    @opi _ (lift (some (fr 1)) H) ⟨fun v20 H =>
    @opi _ (aappendR (some ⟨T.ty_uint32, 1, 4, [(W32 0#32)]⟩) v19 v20 H) ⟨fun v21 H =>
    @opi _ (lift (some v18) H) ⟨fun v4 H =>
    @opi _ (lift (some v21) H) ⟨fun v5 H =>
    some (AFr.al [(4, v4), (5, v5)], H)⟩⟩⟩⟩⟩⟩⟩⟩)
@[simp] noncomputable def body (fr : AFr) (H : AHeap) : ARes :=
  @aseqi (r0 fr H) ⟨fun fr H =>
  @aseqi (@aseqi (r1 fr H) ⟨fun fr H =>
  @acondi (fr 8)
    ⟨r2 fr H⟩
    ⟨some (.normal, fr, H)⟩⟩) ⟨fun fr H =>
  @aseqi (@aseqi (r3 fr H) ⟨fun fr H =>
  @acondi (fr 13)
    ⟨r4 fr H⟩
    ⟨some (.normal, fr, H)⟩⟩) ⟨fun fr H =>
  @aseqi (r5 fr H) ⟨fun fr H =>
  some (.ret, fr, H)⟩⟩⟩⟩
@[simp] def res (fr : AFr) (H : AHeap) : Option (List AV) := res2 (some (fr 4)) (res2 (some (fr 5)) (some []))
end law05_short_ref
noncomputable def law05_short_ref (a0 a1 : AV) (H : AHeap) : Option (AV × AHeap) := raw (afinR law05_short_ref.res (law05_short_ref.body (args0 [a0, a1]) H))
noncomputable def law05_short_ref.spec : List AV → AHeap → Option (AV × AHeap)
  | [a0, a1], H => law05_short_ref a0 a1 H
  | _, _ => none

/-! bauta/mem.New: function 21 -/
namespace mem_New_refn
noncomputable def C (s0 : SpecP) (s1 : SpecP) : Tab := ((Tab.none.add 58 (.pure true s0)).add 59 (.pure true s1))
@[simp] noncomputable def r0 (s0 : SpecP) (s1 : SpecP) (fr : AFr) (H : AHeap) : ARes :=
  areg (@opi _ (lift (some .nilp) H) ⟨fun v6 H =>
    some (AFr.al [(0, fr 0), (1, fr 1), (2, fr 2)], H)⟩)
@[simp] noncomputable def r1 (s0 : SpecP) (s1 : SpecP) (fr : AFr) (H : AHeap) : ARes :=
  areg (@opi _ (lift (some (fr 0)) H) ⟨fun v7 H1 =>
    @opi _ (lift (some (fr 0)) H1) ⟨fun v8 H2 =>
    @opi _ (lift (alenR .sl v8) H2) ⟨fun v9 H3 =>
    @opi _ (lift (amin v9 (.int .i64 60000)) H3) ⟨fun v10 H4 =>
    @opi _ (lift (asliceR (.sl 1) v7 none (some v10) none) H4) ⟨fun v11 H5 =>
    @opi _ (callP true s0 [[some 1]] [v11] H5) ⟨fun v12 H6 =>
    @opi _ (lift (some (fr 1)) H6) ⟨fun v13 H7 =>
    @opi _ (lift (amax v13 (.int .i64 0)) H7) ⟨fun v14 H8 =>
    @opi _ (lift (amin v14 (.int .i64 16000)) H8) ⟨fun v15 H9 =>
    @opi _ (amakeR (some ⟨T.ty_uint32, 1, 4, [(W32 0#32)]⟩) v15 v15 H9) ⟨fun v16 H10 =>
    @opi _ (lift (some (fr 2)) H10) ⟨fun v17 H11 =>
    @opi _ (callP true s1 [[some 1]] [v17] H11) ⟨fun v18 H12 =>
    @opi _ (lift (abuildR (.str [.nils, .nils, .nils, (.int .i64 0), (W32 0#32)] [(0, 1), (1, 1), (2, 1), (3, 1), (4, 1)]) [(0, v12), (1, v16), (2, v18)]) H12) ⟨fun v19 H13 =>
    @opi _ (abox T.ty_mem_Mem v19 H13) ⟨fun v20 H14 =>
    @opi _ (lift (some v20) H14) ⟨fun v6 H15 =>
    some (AFr.al [(6, v6)], H15)⟩⟩⟩⟩⟩⟩⟩⟩⟩⟩⟩⟩⟩⟩⟩)
@[simp] noncomputable def body (s0 : SpecP) (s1 : SpecP) (fr : AFr) (H : AHeap) : ARes :=
  @aseqi (r0 s0 s1 fr H) ⟨fun fr H =>
  @aseqi (r1 s0 s1 fr H) ⟨fun fr H =>
  some (.ret, fr, H)⟩⟩
@[simp] def res (fr : AFr) (H : AHeap) : Option (List AV) := res2 (some (fr 6)) (some [])
end mem_New_refn
noncomputable def mem_New_refn (a0 a1 a2 : AV) (H : AHeap) : Option (AV × AHeap) := raw (afinR mem_New_refn.res (mem_New_refn.body slices_Clone_uint16.spec slices_Clone_uint32.spec (args0 [a0, a1, a2]) H))
noncomputable def mem_New_refn.spec : List AV → AHeap → Option (AV × AHeap)
  | [a0, a1, a2], H => mem_New_refn a0 a1 a2 H
  | _, _ => none

/-! slices.Clone[[]uint32,uint32]: function 59 -/
namespace slices_Clone_uint32_refn
noncomputable def C : Tab := Tab.none
@[simp] noncomputable def r0 (fr : AFr) (H : AHeap) : ARes :=
  areg (@opi _ (lift (some .nils) H) ⟨fun v2 H =>
    some (AFr.al [(0, fr 0)], H)⟩)
@[simp] noncomputable def r1 (fr : AFr) (H : AHeap) : ARes :=
  areg (@opi _ (lift (some (fr 0)) H) ⟨fun v3 H =>
    @opi _ (lift (abinR .s .eql v3 .nils) H) ⟨fun v4 H =>
    some (AFr.al [(0, fr 0), (4, v4)], H)⟩⟩)
@[simp] noncomputable def r2 (fr : AFr) (H : AHeap) : ARes :=
  areg (@opi _ (lift (some .nils) H) ⟨fun v2 H =>
    some (AFr.al [(2, v2)], H)⟩)
@[simp] noncomputable def r3 (fr : AFr) (H : AHeap) : ARes :=
  areg (@opi _ (abuildSliceR (some ⟨T.ty_uint32, 1, 4, [(W32 0#32)]⟩) 0 [] H) ⟨fun v5 H =>
    @opi _ (lift (some (fr 0)) H) ⟨fun v6 H =>
    @opi _ (aappendR (some ⟨T.ty_uint32, 1, 4, [(W32 0#32)]⟩) v5 v6 H) ⟨fun v7 H =>
    @opi _ (lift (some v7) H) ⟨fun v2 H =>
    some (AFr.al [(2, v2)], H)⟩⟩⟩⟩)
@[simp] noncomputable def body (fr : AFr) (H : AHeap) : ARes :=
  @aseqi (r0 fr H) ⟨fun fr H =>
  @aseqi (@aseqi (r1 fr H) ⟨fun fr H =>
  @acondi (fr 4)
    ⟨@aseqi (r2 fr H) ⟨fun fr H =>
    some (.ret, fr, H)⟩⟩
    ⟨some (.normal, fr, H)⟩⟩) ⟨fun fr H =>
  @aseqi (r3 fr H) ⟨fun fr H =>
  some (.ret, fr, H)⟩⟩⟩
@[simp] def res (fr : AFr) (H : AHeap) : Option (List AV) := res2 (some (fr 2)) (some [])
end slices_Clone_uint32_refn
noncomputable def slices_Clone_uint32_refn (a0 : AV) (H : AHeap) : Option (AV × AHeap) := raw (afinR slices_Clone_uint32_refn.res (slices_Clone_uint32_refn.body (args0 [a0]) H))
noncomputable def slices_Clone_uint32_refn.spec : List AV → AHeap → Option (AV × AHeap)
  | [a0], H => slices_Clone_uint32_refn a0 H
  | _, _ => none

/-! (*bauta/mem.Mem).Words: function 35 -/
namespace mem_Mem_Words_ref
noncomputable def C (s0 : SpecM) : Tab := (Tab.none.add 59 (.ref [false] s0))
@[simp] noncomputable def r0 (s0 : SpecM) (fr : AFr) (H : AHeap) : ARes :=
  areg (@opi _ (lift (some .nils) H) ⟨fun v2 H =>
    some (AFr.al [(0, fr 0)], H)⟩)
@[simp] noncomputable def r1 (s0 : SpecM) (fr : AFr) (H : AHeap) : ARes :=
  areg (@opi _ (lift (some (fr 0)) H) ⟨fun v3 H =>
    @opi _ (lift (anil v3) H) ⟨fun v4 H =>
    @opi _ (lift (afieldAddrR (some 1) v4) H) ⟨fun v5 H =>
    @opi _ (lift (aloadR (some none) v5 H) H) ⟨fun v6 H =>
    @opi _ (callM [false] s0 [[some 1]] [v6] H) ⟨fun v7 H =>
    @opi _ (lift (some v7) H) ⟨fun v2 H =>
    some (AFr.al [(2, v2)], H)⟩⟩⟩⟩⟩⟩)
@[simp] noncomputable def body (s0 : SpecM) (fr : AFr) (H : AHeap) : ARes :=
  @aseqi (r0 s0 fr H) ⟨fun fr H =>
  @aseqi (r1 s0 fr H) ⟨fun fr H =>
  some (.ret, fr, H)⟩⟩
@[simp] def res (fr : AFr) (H : AHeap) : Option (List AV) := res2 (some (fr 2)) (some [])
end mem_Mem_Words_ref
noncomputable def mem_Mem_Words_ref (a0 : AV) (H : AHeap) : Option (AV × AHeap) := raw (afinR mem_Mem_Words_ref.res (mem_Mem_Words_ref.body slices_Clone_uint32_refn.spec (args0 [a0]) H))
noncomputable def mem_Mem_Words_ref.spec : List AV → AHeap → Option (AV × AHeap)
  | [a0], H => mem_Mem_Words_ref a0 H
  | _, _ => none

/-! bauta/bautalaw05.MemOwn: function 9 -/
namespace law05_MemOwn
noncomputable def C (s0 : SpecM) (s1 : SpecM) (s2 : SpecM) (s3 : SpecM) (s4 : SpecM) (s5 : SpecM) (s6 : SpecM) (s7 : SpecP) : Tab := ((((((((Tab.none.add 20 (.ref [true, true] s0)).add 21 (.ref [false, false, false] s1)).add 33 (.ref [false, false, false] s2)).add 35 (.ref [false] s3)).add 26 (.ref [false, false] s4)).add 22 (.ref [false, false] s5)).add 36 (.ref [false, false] s6)).add 25 (.pure false s7))
@[simp] noncomputable def r0 (s0 : SpecM) (s1 : SpecM) (s2 : SpecM) (s3 : SpecM) (s4 : SpecM) (s5 : SpecM) (s6 : SpecM) (s7 : SpecP) (fr : AFr) (H : AHeap) : ARes :=
  areg (@opi _ (lift (some (.bool false)) H) ⟨fun v6 H =>
    some (AFr.al [(0, fr 0), (1, fr 1), (2, fr 2)], H)⟩)
@[simp] noncomputable def r1 (s0 : SpecM) (s1 : SpecM) (s2 : SpecM) (s3 : SpecM) (s4 : SpecM) (s5 : SpecM) (s6 : SpecM) (s7 : SpecP) (fr : AFr) (H : AHeap) : ARes :=
  areg (@opi _ (lift (some (fr 0)) H) ⟨fun v18 H =>
    @opi _ (lift (some (fr 1)) H) ⟨fun v19 H =>
    @opi _ (callM [true, true] s0 [[some 1], [some 1]] [v18, v19] H) ⟨fun v20 H =>
    @opi _ (lift (some v20) H) ⟨fun v17 H =>
    @opi _ (lift (aextract v17 0) H) ⟨fun v21 H =>
    @opi _ (lift (aextract v17 1) H) ⟨fun v22 H =>
    @opi _ (lift (some v21) H) ⟨fun v0 H =>
    @opi _ (lift (some v22) H) ⟨fun v1 H =>
    some (AFr.al [(0, v0), (1, v1), (2, fr 2)], H)⟩⟩⟩⟩⟩⟩⟩⟩)
@[simp] noncomputable def r2 (s0 : SpecM) (s1 : SpecM) (s2 : SpecM) (s3 : SpecM) (s4 : SpecM) (s5 : SpecM) (s6 : SpecM) (s7 : SpecP) (fr : AFr) (H : AHeap) : ARes :=
  areg (@opi _ (lift (some (fr 0)) H) ⟨fun v23 H =>
    @opi _ (lift (some (fr 1)) H) ⟨fun v24 H =>
    @opi _ (callM [false, false, false] s1 [[some 1], [none], [some 1]] [v23, (.int .i64 2), v24] H) ⟨fun v25 H =>
    @opi _ (lift (some v25) H) ⟨fun v7 H =>
    some (AFr.al [(0, fr 0), (1, fr 1), (2, fr 2), (7, v7)], H)⟩⟩⟩⟩)
@[simp] noncomputable def r3 (s0 : SpecM) (s1 : SpecM) (s2 : SpecM) (s3 : SpecM) (s4 : SpecM) (s5 : SpecM) (s6 : SpecM) (s7 : SpecP) (fr : AFr) (H : AHeap) : ARes :=
  areg (@opi _ (lift (some (fr 7)) H) ⟨fun v26 H =>
    @opi _ (lift (abinR .p .eql v26 .nilp) H) ⟨fun v27 H =>
    @opi _ (lift (some v27) H) ⟨fun v28 H =>
    @opi _ (@gdi (gw v28 false) ⟨lift (some (fr 7)) H⟩ H) ⟨fun v29 H =>
    @opi _ (@gdi (gw v28 false) ⟨lift (some (fr 2)) H⟩ H) ⟨fun v30 H =>
    @opi _ (@gdi (gw v28 false) ⟨callM [false, false, false] s2 [[none], [none], [none]] [v29, (.int .i64 0), v30] H⟩ H) ⟨fun v31 H =>
    @opi _ (@gdi (gw v28 false) ⟨lift (aun .not v31) H⟩ H) ⟨fun v32 H =>
    @opi _ (lift (apick v28 (.bool true) v32) H) ⟨fun v33 H =>
    some (AFr.al [(0, fr 0), (1, fr 1), (2, fr 2), (7, fr 7), (33, v33)], H)⟩⟩⟩⟩⟩⟩⟩⟩)
@[simp] noncomputable def r4 (s0 : SpecM) (s1 : SpecM) (s2 : SpecM) (s3 : SpecM) (s4 : SpecM) (s5 : SpecM) (s6 : SpecM) (s7 : SpecP) (fr : AFr) (H : AHeap) : ARes :=
  areg (@opi _ (lift (some (.bool false)) H) ⟨fun v6 H =>
    some (AFr.al [(6, v6)], H)⟩)
@[simp] noncomputable def r5 (s0 : SpecM) (s1 : SpecM) (s2 : SpecM) (s3 : SpecM) (s4 : SpecM) (s5 : SpecM) (s6 : SpecM) (s7 : SpecP) (fr : AFr) (H : AHeap) : ARes :=
  areg (@opi _ (lift (some (W16 0#16)) H) ⟨fun v8 H =>
    some (AFr.al [(0, fr 0), (1, fr 1), (2, fr 2), (7, fr 7), (8, v8)], H)⟩)
@[simp] noncomputable def r6 (s0 : SpecM) (s1 : SpecM) (s2 : SpecM) (s3 : SpecM) (s4 : SpecM) (s5 : SpecM) (s6 : SpecM) (s7 : SpecP) (fr : AFr) (H : AHeap) : ARes :=
  areg (@opi _ (lift (some (fr 0)) H) ⟨fun v34 H =>
    @opi _ (lift (alenR .sl v34) H) ⟨fun v35 H =>
    @opi _ (lift (abinR .x .gtr v35 (.int .i64 0)) H) ⟨fun v36 H =>
    some (AFr.al [(0, fr 0), (1, fr 1), (2, fr 2), (7, fr 7), (8, fr 8), (36, v36)], H)⟩⟩⟩)
@[simp] noncomputable def r7 (s0 : SpecM) (s1 : SpecM) (s2 : SpecM) (s3 : SpecM) (s4 : SpecM) (s5 : SpecM) (s6 : SpecM) (s7 : SpecP) (fr : AFr) (H : AHeap) : ARes :=
  areg (@opi _ (lift (some (fr 0)) H) ⟨fun v37 H =>
    @opi _ (lift (aindexAddrR (.sl 1) v37 (.int .i64 0)) H) ⟨fun v38 H =>
    @opi _ (lift (aloadR (some none) v38 H) H) ⟨fun v39 H =>
    @opi _ (lift (some v39) H) ⟨fun v8 H =>
    some (AFr.al [(0, fr 0), (1, fr 1), (2, fr 2), (7, fr 7), (8, v8)], H)⟩⟩⟩⟩)
@[simp] noncomputable def r8 (s0 : SpecM) (s1 : SpecM) (s2 : SpecM) (s3 : SpecM) (s4 : SpecM) (s5 : SpecM) (s6 : SpecM) (s7 : SpecP) (fr : AFr) (H : AHeap) : ARes :=
  areg (@opi _ (lift (some (fr 0)) H) ⟨fun v40 H =>
    @opi _ (lift (aindexAddrR (.sl 1) v40 (.int .i64 0)) H) ⟨fun v41 H =>
    @opi _ (lift (aloadR (some none) v41 H) H) ⟨fun v42 H =>
    @opi _ (lift (abinR .x .add v42 (W16 1#16)) H) ⟨fun v43 H =>
    @opi _ (lift (aindexAddrR (.sl 1) v40 (.int .i64 0)) H) ⟨fun v44 H =>
    @opi _ (liftS (astoreR (some 1) v44 v43 H)) ⟨fun _ H =>
    some (AFr.al [(0, fr 0), (1, fr 1), (2, fr 2), (7, fr 7), (8, fr 8)], H)⟩⟩⟩⟩⟩⟩)
@[simp] noncomputable def r9 (s0 : SpecM) (s1 : SpecM) (s2 : SpecM) (s3 : SpecM) (s4 : SpecM) (s5 : SpecM) (s6 : SpecM) (s7 : SpecP) (fr : AFr) (H : AHeap) : ARes :=
  areg (@opi _ (lift (some (W32 0#32)) H) ⟨fun v9 H =>
    some (AFr.al [(0, fr 0), (1, fr 1), (2, fr 2), (7, fr 7), (8, fr 8), (9, v9)], H)⟩)
@[simp] noncomputable def r10 (s0 : SpecM) (s1 : SpecM) (s2 : SpecM) (s3 : SpecM) (s4 : SpecM) (s5 : SpecM) (s6 : SpecM) (s7 : SpecP) (fr : AFr) (H : AHeap) : ARes :=
  areg (@opi _ (lift (some (fr 1)) H) ⟨fun v45 H =>
    @opi _ (lift (alenR .sl v45) H) ⟨fun v46 H =>
    @opi _ (lift (abinR .x .gtr v46 (.int .i64 0)) H) ⟨fun v47 H =>
    some (AFr.al [(0, fr 0), (1, fr 1), (2, fr 2), (7, fr 7), (8, fr 8), (9, fr 9), (47, v47)], H)⟩⟩⟩)
@[simp] noncomputable def r11 (s0 : SpecM) (s1 : SpecM) (s2 : SpecM) (s3 : SpecM) (s4 : SpecM) (s5 : SpecM) (s6 : SpecM) (s7 : SpecP) (fr : AFr) (H : AHeap) : ARes :=
  areg (@opi _ (lift (some (fr 1)) H) ⟨fun v48 H =>
    @opi _ (lift (aindexAddrR (.sl 1) v48 (.int .i64 0)) H) ⟨fun v49 H =>
    @opi _ (lift (aloadR (some none) v49 H) H) ⟨fun v50 H =>
    @opi _ (lift (some v50) H) ⟨fun v9 H =>
    some (AFr.al [(0, fr 0), (1, fr 1), (2, fr 2), (7, fr 7), (8, fr 8), (9, v9)], H)⟩⟩⟩⟩)
@[simp] noncomputable def r12 (s0 : SpecM) (s1 : SpecM) (s2 : SpecM) (s3 : SpecM) (s4 : SpecM) (s5 : SpecM) (s6 : SpecM) (s7 : SpecP) (fr : AFr) (H : AHeap) : ARes :=
  areg (@opi _ (lift (some (fr 1)) H) ⟨fun v51 H =>
    @opi _ (lift (aindexAddrR (.sl 1) v51 (.int .i64 0)) H) ⟨fun v52 H =>
    @opi _ (lift (aloadR (some none) v52 H) H) ⟨fun v53 H =>
    @opi _ (lift (abinR .x .add v53 (W32 1#32)) H) ⟨fun v54 H =>
    @opi _ (lift (aindexAddrR (.sl 1) v51 (.int .i64 0)) H) ⟨fun v55 H =>
    @opi _ (liftS (astoreR (some 1) v55 v54 H)) ⟨fun _ H =>
    some (AFr.al [(0, fr 0), (1, fr 1), (2, fr 2), (7, fr 7), (8, fr 8), (9, fr 9)], H)⟩⟩⟩⟩⟩⟩)
@[simp] noncomputable def r13 (s0 : SpecM) (s1 : SpecM) (s2 : SpecM) (s3 : SpecM) (s4 : SpecM) (s5 : SpecM) (s6 : SpecM) (s7 : SpecP) (fr : AFr) (H : AHeap) : ARes :=
  areg (@opi _ (lift (some (fr 7)) H) ⟨fun v56 H =>
    @opi _ (callM [false] s3 [[none]] [v56] H) ⟨fun v57 H =>
    @opi _ (lift (some v57) H) ⟨fun v10 H =>
    some (AFr.al [(0, fr 0), (1, fr 1), (2, fr 2), (7, fr 7), (8, fr 8), (9, fr 9), (10, v10)], H)⟩⟩⟩)
@[simp] noncomputable def r14 (s0 : SpecM) (s1 : SpecM) (s2 : SpecM) (s3 : SpecM) (s4 : SpecM) (s5 : SpecM) (s6 : SpecM) (s7 : SpecP) (fr : AFr) (H : AHeap) : ARes :=
  areg (@opi _ (lift (some (fr 10)) H) ⟨fun v58 H =>
    @opi _ (lift (alenR .sl v58) H) ⟨fun v59 H =>
    @opi _ (lift (abinR .x .neq v59 (.int .i64 2)) H) ⟨fun v60 H =>
    some (AFr.al [(0, fr 0), (1, fr 1), (2, fr 2), (7, fr 7), (8, fr 8), (9, fr 9), (10, fr 10), (60, v60)], H)⟩⟩⟩)
@[simp] noncomputable def r15 (s0 : SpecM) (s1 : SpecM) (s2 : SpecM) (s3 : SpecM) (s4 : SpecM) (s5 : SpecM) (s6 : SpecM) (s7 : SpecP) (fr : AFr) (H : AHeap) : ARes :=
  areg (@opi _ (lift (some (.bool false)) H) ⟨fun v6 H =>
    some (AFr.al [(6, v6)], H)⟩)
@[simp] noncomputable def r16 (s0 : SpecM) (s1 : SpecM) (s2 : SpecM) (s3 : SpecM) (s4 : SpecM) (s5 : SpecM) (s6 : SpecM) (s7 : SpecP) (fr : AFr) (H : AHeap) : ARes :=
  areg (@opi _ (lift (some (fr 10)) H) ⟨fun v61 H =>
    @opi _ (lift (aindexAddrR (.sl 1) v61 (.int .i64 0)) H) ⟨fun v62 H =>
    @opi _ (lift (aloadR (some none) v62 H) H) ⟨fun v63 H =>
    @opi _ (lift (abinR .x .add v63 (W32 1#32)) H) ⟨fun v64 H =>
    @opi _ (lift (aindexAddrR (.sl 1) v61 (.int .i64 0)) H) ⟨fun v65 H =>
    @opi _ (liftS (astoreR (some 1) v65 v64 H)) ⟨fun _ H =>
    some (AFr.al [(0, fr 0), (1, fr 1), (2, fr 2), (7, fr 7), (8, fr 8), (9, fr 9)], H)⟩⟩⟩⟩⟩⟩)
@[simp] noncomputable def r17 (s0 : SpecM) (s1 : SpecM) (s2 : SpecM) (s3 : SpecM) (s4 : SpecM) (s5 : SpecM) (s6 : SpecM) (s7 : SpecP) (fr : AFr) (H : AHeap) : ARes :=
  areg (@opi _ (lift (some (fr 7)) H) ⟨fun v67 H =>
    @opi _ (callM [false, false] s4 [[none], [none]] [v67, (W32 0#32)] H) ⟨fun v68 H =>
    @opi _ (lift (some v68) H) ⟨fun v66 H =>
    @opi _ (lift (aextract v66 0) H) ⟨fun v69 H =>
    @opi _ (lift (aextract v66 1) H) ⟨fun v70 H =>
    @opi _ (lift (some v69) H) ⟨fun v11 H =>
    @opi _ (lift (some v70) H) ⟨fun v12 H =>
    some (AFr.al [(0, fr 0), (1, fr 1), (2, fr 2), (7, fr 7), (8, fr 8), (9, fr 9), (11, v11), (12, v12)], H)⟩⟩⟩⟩⟩⟩⟩)
@[simp] noncomputable def r18 (s0 : SpecM) (s1 : SpecM) (s2 : SpecM) (s3 : SpecM) (s4 : SpecM) (s5 : SpecM) (s6 : SpecM) (s7 : SpecP) (fr : AFr) (H : AHeap) : ARes :=
  areg (@opi _ (lift (some (fr 7)) H) ⟨fun v72 H =>
    @opi _ (callM [false, false] s5 [[none], [none]] [v72, (W32 1073741824#32)] H) ⟨fun v73 H =>
    @opi _ (lift (some v73) H) ⟨fun v71 H =>
    @opi _ (lift (aextract v71 0) H) ⟨fun v74 H =>
    @opi _ (lift (aextract v71 1) H) ⟨fun v75 H =>
    @opi _ (lift (some v74) H) ⟨fun v13 H =>
    @opi _ (lift (some v75) H) ⟨fun v14 H =>
    some (AFr.al [(0, fr 0), (1, fr 1), (2, fr 2), (7, fr 7), (8, fr 8), (9, fr 9), (11, fr 11), (12, fr 12), (13, v13), (14, v14)], H)⟩⟩⟩⟩⟩⟩⟩)
@[simp] noncomputable def r19 (s0 : SpecM) (s1 : SpecM) (s2 : SpecM) (s3 : SpecM) (s4 : SpecM) (s5 : SpecM) (s6 : SpecM) (s7 : SpecP) (fr : AFr) (H : AHeap) : ARes :=
  areg (@opi _ (lift (some (fr 7)) H) ⟨fun v77 H =>
    @opi _ (callM [false, false] s6 [[none], [none]] [v77, (.int .i64 0)] H) ⟨fun v78 H =>
    @opi _ (lift (some v78) H) ⟨fun v76 H =>
    @opi _ (lift (aextract v76 0) H) ⟨fun v79 H =>
    @opi _ (lift (aextract v76 1) H) ⟨fun v80 H =>
    @opi _ (lift (some v79) H) ⟨fun v15 H =>
    @opi _ (lift (some v80) H) ⟨fun v16 H =>
    some (AFr.al [(0, fr 0), (1, fr 1), (2, fr 2), (8, fr 8), (9, fr 9), (11, fr 11), (12, fr 12), (13, fr 13), (14, fr 14), (15, v15)], H)⟩⟩⟩⟩⟩⟩⟩)
@[simp] noncomputable def r20 (s0 : SpecM) (s1 : SpecM) (s2 : SpecM) (s3 : SpecM) (s4 : SpecM) (s5 : SpecM) (s6 : SpecM) (s7 : SpecP) (fr : AFr) (H : AHeap) : ARes :=
  areg (@opi _ (lift (some (fr 11)) H) ⟨fun v81 H =>
    @opi _ (lift (some (fr 8)) H) ⟨fun v82 H =>
    @opi _ (lift (abinR .x .eql v81 v82) H) ⟨fun v83 H =>
    @opi _ (lift (some v83) H) ⟨fun v84 H =>
    @opi _ (@gdi (gw v84 true) ⟨lift (some (fr 12)) H⟩ H) ⟨fun v85 H =>
    @opi _ (@gdi (gw v84 true) ⟨lift (abinR .x .eql v85 (.int .i64 0)) H⟩ H) ⟨fun v86 H =>
    @opi _ (@gdi (gw v84 true) ⟨lift (some (fr 0)) H⟩ H) ⟨fun v87 H =>
    @opi _ (@gdi (gw v84 true) ⟨lift (alenR .sl v87) H⟩ H) ⟨fun v88 H =>
    @opi _ (@gdi (gw v84 true) ⟨lift (abinR .x .gtr v88 (.int .i64 0)) H⟩ H) ⟨fun v89 H =>
    @opi _ (@gdi (gw v84 true) ⟨lift (abinR .b .eql v86 v89) H⟩ H) ⟨fun v90 H =>
    @opi _ (lift (apick v84 v90 (.bool false)) H) ⟨fun v91 H =>
    @opi _ (lift (some v91) H) ⟨fun v92 H =>
    @opi _ (@gdi (gw v92 true) ⟨lift (some (fr 13)) H⟩ H) ⟨fun v93 H =>
    @opi _ (@gdi (gw v92 true) ⟨lift (some (fr 9)) H⟩ H) ⟨fun v94 H =>
    @opi _ (@gdi (gw v92 true) ⟨lift (abinR .x .eql v93 v94) H⟩ H) ⟨fun v95 H =>
    @opi _ (lift (apick v92 v95 (.bool false)) H) ⟨fun v96 H =>
    @opi _ (lift (some v96) H) ⟨fun v97 H =>
    @opi _ (@gdi (gw v97 true) ⟨lift (some (fr 14)) H⟩ H) ⟨fun v98 H =>
    @opi _ (@gdi (gw v97 true) ⟨lift (abinR .x .eql v98 (.int .i64 0)) H⟩ H) ⟨fun v99 H =>
    @opi _ (@gdi (gw v97 true) ⟨lift (some (fr 1)) H⟩ H) ⟨fun v100 H =>
    @opi _ (@gdi (gw v97 true) ⟨lift (alenR .sl v100) H⟩ H) ⟨fun v101 H =>
    @opi _ (@gdi (gw v97 true) ⟨lift (abinR .x .gtr v101 (.int .i64 0)) H⟩ H) ⟨fun v102 H =>
    @opi _ (@gdi (gw v97 true) ⟨lift (abinR .b .eql v99 v102) H⟩ H) ⟨fun v103 H =>
    @opi _ (lift (apick v97 v103 (.bool false)) H) ⟨fun v104 H =>
    @opi _ (lift (some v104) H) ⟨fun v105 H =>
    @opi _ (@gdi (gw v105 true) ⟨lift (some (fr 15)) H⟩ H) ⟨fun v106 H =>
    @opi _ (@gdi (gw v105 true) ⟨lift (some (fr 2)) H⟩ H) ⟨fun v107 H =>
    @opi _ (@gdi (gw v105 true) ⟨lift (abinR .x .eql v106 v107) H⟩ H) ⟨fun v108 H =>
    @opi _ (lift (apick v105 v108 (.bool false)) H) ⟨fun v109 H =>
    @opi _ (lift (some v109) H) ⟨fun v110 H =>
    @opi _ (@gdi (gw v110 true) ⟨callP false s7 [] [] H⟩ H) ⟨fun v111 H =>
    @opi _ (lift (apick v110 v111 (.bool false)) H) ⟨fun v112 H =>
    @opi _ (lift (some v112) H) ⟨fun v6 H =>
    some (AFr.al [(6, v6)], H)⟩⟩⟩⟩⟩⟩⟩⟩⟩⟩⟩⟩⟩⟩⟩⟩⟩⟩⟩⟩⟩⟩⟩⟩⟩⟩⟩⟩⟩⟩⟩⟩⟩)
@[simp] noncomputable def body (s0 : SpecM) (s1 : SpecM) (s2 : SpecM) (s3 : SpecM) (s4 : SpecM) (s5 : SpecM) (s6 : SpecM) (s7 : SpecP) (fr : AFr) (H : AHeap) : ARes :=
  @aseqi (r0 s0 s1 s2 s3 s4 s5 s6 s7 fr H) ⟨fun fr H =>
  @aseqi (r1 s0 s1 s2 s3 s4 s5 s6 s7 fr H) ⟨fun fr H =>
  @aseqi (r2 s0 s1 s2 s3 s4 s5 s6 s7 fr H) ⟨fun fr H =>
  @aseqi (@aseqi (r3 s0 s1 s2 s3 s4 s5 s6 s7 fr H) ⟨fun fr H =>
  @acondi (fr 33)
    ⟨@aseqi (r4 s0 s1 s2 s3 s4 s5 s6 s7 fr H) ⟨fun fr H =>
    some (.ret, fr, H)⟩⟩
    ⟨some (.normal, fr, H)⟩⟩) ⟨fun fr H =>
  @aseqi (r5 s0 s1 s2 s3 s4 s5 s6 s7 fr H) ⟨fun fr H =>
  @aseqi (@aseqi (r6 s0 s1 s2 s3 s4 s5 s6 s7 fr H) ⟨fun fr H =>
  @acondi (fr 36)
    ⟨@aseqi (r7 s0 s1 s2 s3 s4 s5 s6 s7 fr H) ⟨fun fr H =>
    r8 s0 s1 s2 s3 s4 s5 s6 s7 fr H⟩⟩
    ⟨some (.normal, fr, H)⟩⟩) ⟨fun fr H =>
  @aseqi (r9 s0 s1 s2 s3 s4 s5 s6 s7 fr H) ⟨fun fr H =>
  @aseqi (@aseqi (r10 s0 s1 s2 s3 s4 s5 s6 s7 fr H) ⟨fun fr H =>
  @acondi (fr 47)
    ⟨@aseqi (r11 s0 s1 s2 s3 s4 s5 s6 s7 fr H) ⟨fun fr H =>
    r12 s0 s1 s2 s3 s4 s5 s6 s7 fr H⟩⟩
    ⟨some (.normal, fr, H)⟩⟩) ⟨fun fr H =>
  @aseqi (r13 s0 s1 s2 s3 s4 s5 s6 s7 fr H) ⟨fun fr H =>
  @aseqi (@aseqi (r14 s0 s1 s2 s3 s4 s5 s6 s7 fr H) ⟨fun fr H =>
  @acondi (fr 60)
    ⟨@aseqi (r15 s0 s1 s2 s3 s4 s5 s6 s7 fr H) ⟨fun fr H =>
    some (.ret, fr, H)⟩⟩
    ⟨some (.normal, fr, H)⟩⟩) ⟨fun fr H =>
  @aseqi (r16 s0 s1 s2 s3 s4 s5 s6 s7 fr H) ⟨fun fr H =>
  @aseqi (r17 s0 s1 s2 s3 s4 s5 s6 s7 fr H) ⟨fun fr H =>
  @aseqi (r18 s0 s1 s2 s3 s4 s5 s6 s7 fr H) ⟨fun fr H =>
  @aseqi (r19 s0 s1 s2 s3 s4 s5 s6 s7 fr H) ⟨fun fr H =>
  @aseqi (r20 s0 s1 s2 s3 s4 s5 s6 s7 fr H) ⟨fun fr H =>
  some (.ret, fr, H)⟩⟩⟩⟩⟩⟩⟩⟩⟩⟩⟩⟩⟩⟩⟩
@[simp] def res (fr : AFr) (H : AHeap) : Option (List AV) := res2 (some (fr 6)) (some [])
end law05_MemOwn
noncomputable def law05_MemOwn (a0 a1 a2 : AV) : Option AV := closeUpR (some [[none]]) (afinR law05_MemOwn.res (law05_MemOwn.body law05_short_ref.spec mem_New_refn.spec mem_Mem_Set.spec mem_Mem_Words_ref.spec mem_Mem_Fetch.spec mem_Mem_Load.spec mem_Mem_Word.spec law05_lives.spec (args0 [a0, a1, a2]) AHeap.empty))
noncomputable def law05_MemOwn.spec : List AV → Option AV
  | [a0, a1, a2] => law05_MemOwn a0 a1 a2
  | _ => none

end Go.Abs
