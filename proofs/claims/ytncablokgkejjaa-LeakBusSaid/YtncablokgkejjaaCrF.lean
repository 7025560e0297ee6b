/-
  The functions, as they are over abstract values. Printed by gen.py.
-/
import Derived.Test.YtncablokgkejjaaLoF
set_option linter.unusedVariables false
namespace Go.Abs
noncomputable section
namespace ref06_Flags
@[simp] def r0 (fr : AFr) (H : AHeap) : ARes :=
 areg (@opi _ (abox T.ty_api_State (fr 0) H) ⟨fun v2 H =>
 @opi _ (aallocR T.ty_api_State (some (.agg [(W32 0#32), (W32 0#32), (W32 0#32), (W32 0#32), (W32 0#32), (W32 0#32), (W32 0#32), (W32 0#32), (W32 0#32), (.bool false), (.bool false), (.bool false), (.bool false)])) H) ⟨fun v4 H =>
 some (AFr.al [(1, fr 1), (2, v2), (4, v4)], H)⟩⟩)
@[simp] def r1 (fr : AFr) (H : AHeap) : ARes :=
 areg (@opi _ (lift (abinR .x .geq (fr 1) (W32 2147483648#32)) H) ⟨fun v6 H =>
 @opi _ (lift (abinR .x .eql (fr 1) (W32 0#32)) H) ⟨fun v8 H =>
 @opi _ (lift (afieldAddrR (some 9) (fr 2)) H) ⟨fun v9 H =>
 @opi _ (liftS (astoreR (some 1) v9 v6 H)) ⟨fun _ H =>
 @opi _ (lift (afieldAddrR (some 10) (fr 2)) H) ⟨fun v10 H =>
 @opi _ (liftS (astoreR (some 1) v10 v8 H)) ⟨fun _ H =>
 some (AFr.al [(2, fr 2), (4, fr 4)], H)⟩⟩⟩⟩⟩⟩)
@[simp] def r2 (fr : AFr) (H : AHeap) : ARes :=
 areg (@opi _ (lift (aloadR (some (some 13)) (fr 2) H) H) ⟨fun v11 H =>
 @opi _ (liftS (astoreR (some 13) (fr 4) v11 H)) ⟨fun _ H =>
 some (AFr.al [(4, fr 4)], H)⟩⟩)
@[simp] def body (fr : AFr) (H : AHeap) : ARes :=
  @aseqi (r0 fr H) ⟨fun fr H =>
 @aseqi (r1 fr H) ⟨fun fr H =>
 @aseqi (r2 fr H) ⟨fun fr H =>
 some (.ret, fr, H)⟩⟩⟩
@[simp] def res (fr : AFr) (H : AHeap) : Option (List AV) := res2 (aloadR (some (some 13)) (fr 4) H) (some [])
end ref06_Flags
def ref06_Flags (a0 a1 : AV) : Option AV := closeUpR (some [[none, none, none, none, none, none, none, none, none, none, none, none, none]]) (afinR ref06_Flags.res (ref06_Flags.body (args0 [a0, a1]) AHeap.empty))
def ref06_Flags.spec : List AV → Option AV
  | [a0, a1] => ref06_Flags a0 a1
  | _ => none
namespace ref06_put
@[simp] def r0 (fr : AFr) (H : AHeap) : ARes :=
 areg (@opi _ (abox T.ty_api_State (fr 0) H) ⟨fun v3 H =>
 @opi _ (aallocR T.ty_api_State (some (.agg [(W32 0#32), (W32 0#32), (W32 0#32), (W32 0#32), (W32 0#32), (W32 0#32), (W32 0#32), (W32 0#32), (W32 0#32), (.bool false), (.bool false), (.bool false), (.bool false)])) H) ⟨fun v6 H =>
 some (AFr.al [(1, fr 1), (2, fr 2), (3, v3), (6, v6)], H)⟩⟩)
@[simp] def r1 (s0 : SpecP) (fr : AFr) (H : AHeap) : ARes :=
 areg (@opi _ (lift (aloadR (some (some 13)) (fr 3) H) H) ⟨fun v7 H =>
 @opi _ (callP false s0 [[none, none, none, none, none, none, none, none, none, none, none, none, none], [none]] [v7, (fr 1)] H) ⟨fun v9 H =>
 @opi _ (liftS (astoreR (some 13) (fr 3) v9 H)) ⟨fun _ H =>
 some (AFr.al [(1, fr 1), (2, fr 2), (3, fr 3), (6, fr 6)], H)⟩⟩⟩)
@[simp] def r2 (fr : AFr) (H : AHeap) : ARes :=
 areg (@opi _ (lift (abinR .x .geq (fr 2) (.int .i64 0)) H) ⟨fun v11 H =>
 some (AFr.al [(1, fr 1), (2, fr 2), (3, fr 3), (6, fr 6), (11, v11)], H)⟩)
@[simp] def r3 (fr : AFr) (H : AHeap) : ARes :=
 areg (@opi _ (lift (afieldAddrR (some 0) (fr 3)) H) ⟨fun v14 H =>
 @opi _ (lift (aindexAddrR (.arr 8 1) v14 (fr 2)) H) ⟨fun v15 H =>
 @opi _ (liftS (astoreR (some 1) v15 (fr 1) H)) ⟨fun _ H =>
 some (AFr.al [(3, fr 3), (6, fr 6)], H)⟩⟩⟩)
@[simp] def r4 (fr : AFr) (H : AHeap) : ARes :=
 areg (@opi _ (lift (aloadR (some (some 13)) (fr 3) H) H) ⟨fun v16 H =>
 @opi _ (liftS (astoreR (some 13) (fr 6) v16 H)) ⟨fun _ H =>
 some (AFr.al [(6, fr 6)], H)⟩⟩)
@[simp] def body (s0 : SpecP) (fr : AFr) (H : AHeap) : ARes :=
  @aseqi (r0 fr H) ⟨fun fr H =>
 @aseqi (r1 s0 fr H) ⟨fun fr H =>
 @aseqi (@aseqi (r2 fr H) ⟨fun fr H =>
 @acondi (fr 11)
 ⟨r3 fr H⟩
 ⟨some (.normal, fr, H)⟩⟩) ⟨fun fr H =>
 @aseqi (r4 fr H) ⟨fun fr H =>
 some (.ret, fr, H)⟩⟩⟩⟩
@[simp] def res (fr : AFr) (H : AHeap) : Option (List AV) := res2 (aloadR (some (some 13)) (fr 6) H) (some [])
end ref06_put
def ref06_put (a0 a1 a2 : AV) : Option AV := closeUpR (some [[none, none, none, none, none, none, none, none, none, none, none, none, none]]) (afinR ref06_put.res (ref06_put.body ref06_Flags.spec (args0 [a0, a1, a2]) AHeap.empty))
def ref06_put.spec : List AV → Option AV
  | [a0, a1, a2] => ref06_put a0 a1 a2
  | _ => none
namespace ref06_not
@[simp] def r0 (fr : AFr) (H : AHeap) : ARes :=
 areg (some (AFr.al [(0, fr 0)], H))
@[simp] def r1 (fr : AFr) (H : AHeap) : ARes :=
 areg (@opi _ (lift (abinR .x .sub (W32 4294967295#32) (fr 0)) H) ⟨fun v4 H =>
 some (AFr.al [(2, v4)], H)⟩)
@[simp] def body (fr : AFr) (H : AHeap) : ARes :=
  @aseqi (r0 fr H) ⟨fun fr H =>
 @aseqi (r1 fr H) ⟨fun fr H =>
 some (.ret, fr, H)⟩⟩
@[simp] def res (fr : AFr) (H : AHeap) : Option (List AV) := res2 (some (fr 2)) (some [])
end ref06_not
def ref06_not (a0 : AV) : Option AV := closeUpR (some [[none]]) (afinR ref06_not.res (ref06_not.body (args0 [a0]) AHeap.empty))
def ref06_not.spec : List AV → Option AV
  | [a0] => ref06_not a0
  | _ => none
namespace ref06_sum
@[simp] def r0 (fr : AFr) (H : AHeap) : ARes :=
 areg (@opi _ (abox T.ty_api_State (fr 0) H) ⟨fun v5 H =>
 @opi _ (aallocR T.ty_api_State (some (.agg [(W32 0#32), (W32 0#32), (W32 0#32), (W32 0#32), (W32 0#32), (W32 0#32), (W32 0#32), (W32 0#32), (W32 0#32), (.bool false), (.bool false), (.bool false), (.bool false)])) H) ⟨fun v10 H =>
 some (AFr.al [(1, fr 1), (2, fr 2), (3, fr 3), (4, fr 4), (5, v5), (10, v10)], H)⟩⟩)
@[simp] def r1 (s0 : SpecP) (fr : AFr) (H : AHeap) : ARes :=
 areg (@opi _ (callP false s0 [[none], [none], [none]] [(fr 1), (fr 2), (fr 3)] H) ⟨fun v18 H =>
 @opi _ (lift (aextract v18 0) H) ⟨fun v19 H =>
 @opi _ (lift (aextract v18 1) H) ⟨fun v20 H =>
 @opi _ (lift (aextract v18 2) H) ⟨fun v21 H =>
 some (AFr.al [(4, fr 4), (5, fr 5), (10, fr 10), (11, v19), (12, v20), (13, v21)], H)⟩⟩⟩⟩)
@[simp] def r2 (fr : AFr) (H : AHeap) : ARes :=
 areg (@opi _ (lift (afieldAddrR (some 11) (fr 5)) H) ⟨fun v24 H =>
 @opi _ (liftS (astoreR (some 1) v24 (fr 12) H)) ⟨fun _ H =>
 @opi _ (lift (afieldAddrR (some 12) (fr 5)) H) ⟨fun v25 H =>
 @opi _ (liftS (astoreR (some 1) v25 (fr 13) H)) ⟨fun _ H =>
 some (AFr.al [(4, fr 4), (5, fr 5), (10, fr 10), (11, fr 11)], H)⟩⟩⟩⟩)
@[simp] def r3 (s1 : SpecP) (fr : AFr) (H : AHeap) : ARes :=
 areg (@opi _ (lift (aloadR (some (some 13)) (fr 5) H) H) ⟨fun v26 H =>
 @opi _ (callP false s1 [[none, none, none, none, none, none, none, none, none, none, none, none, none], [none], [none]] [v26, (fr 11), (fr 4)] H) ⟨fun v29 H =>
 @opi _ (liftS (astoreR (some 13) (fr 10) v29 H)) ⟨fun _ H =>
 some (AFr.al [(10, fr 10)], H)⟩⟩⟩)
@[simp] def body (s0 s1 : SpecP) (fr : AFr) (H : AHeap) : ARes :=
  @aseqi (r0 fr H) ⟨fun fr H =>
 @aseqi (r1 s0 fr H) ⟨fun fr H =>
 @aseqi (r2 fr H) ⟨fun fr H =>
 @aseqi (r3 s1 fr H) ⟨fun fr H =>
 some (.ret, fr, H)⟩⟩⟩⟩
@[simp] def res (fr : AFr) (H : AHeap) : Option (List AV) := res2 (aloadR (some (some 13)) (fr 10) H) (some [])
end ref06_sum
def ref06_sum (a0 a1 a2 a3 a4 : AV) : Option AV := closeUpR (some [[none, none, none, none, none, none, none, none, none, none, none, none, none]]) (afinR ref06_sum.res (ref06_sum.body ref01_Add.spec ref06_put.spec (args0 [a0, a1, a2, a3, a4]) AHeap.empty))
def ref06_sum.spec : List AV → Option AV
  | [a0, a1, a2, a3, a4] => ref06_sum a0 a1 a2 a3 a4
  | _ => none
namespace ref06_shift
@[simp] def r0 (fr : AFr) (H : AHeap) : ARes :=
 areg (@opi _ (abox T.ty_api_State (fr 0) H) ⟨fun v5 H =>
 @opi _ (aallocR T.ty_api_State (some (.agg [(W32 0#32), (W32 0#32), (W32 0#32), (W32 0#32), (W32 0#32), (W32 0#32), (W32 0#32), (W32 0#32), (W32 0#32), (.bool false), (.bool false), (.bool false), (.bool false)])) H) ⟨fun v10 H =>
 some (AFr.al [(1, fr 1), (2, fr 2), (3, fr 3), (4, fr 4), (5, v5), (10, v10)], H)⟩⟩)
@[simp] def r1 (s0 : SpecP) (fr : AFr) (H : AHeap) : ARes :=
 areg (@opi _ (lift (afieldAddrR (some 11) (fr 5)) H) ⟨fun v17 H =>
 @opi _ (lift (aloadR (some none) v17 H) H) ⟨fun v18 H =>
 @opi _ (callP false s0 [[none], [none], [none], [none]] [(fr 1), (fr 2), (fr 3), v18] H) ⟨fun v19 H =>
 @opi _ (lift (aextract v19 0) H) ⟨fun v20 H =>
 @opi _ (lift (aextract v19 1) H) ⟨fun v21 H =>
 some (AFr.al [(4, fr 4), (5, fr 5), (10, fr 10), (11, v20), (12, v21)], H)⟩⟩⟩⟩⟩)
@[simp] def r2 (fr : AFr) (H : AHeap) : ARes :=
 areg (@opi _ (lift (afieldAddrR (some 11) (fr 5)) H) ⟨fun v23 H =>
 @opi _ (liftS (astoreR (some 1) v23 (fr 12) H)) ⟨fun _ H =>
 some (AFr.al [(4, fr 4), (5, fr 5), (10, fr 10), (11, fr 11)], H)⟩⟩)
@[simp] def r3 (s1 : SpecP) (fr : AFr) (H : AHeap) : ARes :=
 areg (@opi _ (lift (aloadR (some (some 13)) (fr 5) H) H) ⟨fun v24 H =>
 @opi _ (callP false s1 [[none, none, none, none, none, none, none, none, none, none, none, none, none], [none], [none]] [v24, (fr 11), (fr 4)] H) ⟨fun v27 H =>
 @opi _ (liftS (astoreR (some 13) (fr 10) v27 H)) ⟨fun _ H =>
 some (AFr.al [(10, fr 10)], H)⟩⟩⟩)
@[simp] def body (s0 s1 : SpecP) (fr : AFr) (H : AHeap) : ARes :=
  @aseqi (r0 fr H) ⟨fun fr H =>
 @aseqi (r1 s0 fr H) ⟨fun fr H =>
 @aseqi (r2 fr H) ⟨fun fr H =>
 @aseqi (r3 s1 fr H) ⟨fun fr H =>
 some (.ret, fr, H)⟩⟩⟩⟩
@[simp] def res (fr : AFr) (H : AHeap) : Option (List AV) := res2 (aloadR (some (some 13)) (fr 10) H) (some [])
end ref06_shift
def ref06_shift (a0 a1 a2 a3 a4 : AV) : Option AV := closeUpR (some [[none, none, none, none, none, none, none, none, none, none, none, none, none]]) (afinR ref06_shift.res (ref06_shift.body ref01_Shift.spec ref06_put.spec (args0 [a0, a1, a2, a3, a4]) AHeap.empty))
def ref06_shift.spec : List AV → Option AV
  | [a0, a1, a2, a3, a4] => ref06_shift a0 a1 a2 a3 a4
  | _ => none
namespace ref06_alu
@[simp] def r0 (fr : AFr) (H : AHeap) : ARes :=
 areg (@opi _ (abox T.ty_api_State (fr 0) H) ⟨fun v5 H =>
 @opi _ (aallocR T.ty_api_State (some (.agg [(W32 0#32), (W32 0#32), (W32 0#32), (W32 0#32), (W32 0#32), (W32 0#32), (W32 0#32), (W32 0#32), (W32 0#32), (.bool false), (.bool false), (.bool false), (.bool false)])) H) ⟨fun v10 H =>
 some (AFr.al [(1, fr 1), (2, fr 2), (3, fr 3), (4, fr 4), (5, v5), (10, v10)], H)⟩⟩)
@[simp] def r1 (fr : AFr) (H : AHeap) : ARes :=
 areg (some (AFr.al [(1, fr 1), (2, fr 2), (3, fr 3), (4, fr 4), (5, fr 5), (10, fr 10), (11, (fr 1))], H))
@[simp] def r2 (fr : AFr) (H : AHeap) : ARes :=
 areg (@opi _ (lift (abinR .x .eql (fr 11) (.int .i64 0)) H) ⟨fun v13 H =>
 some (AFr.al [(1, fr 1), (2, fr 2), (3, fr 3), (4, fr 4), (5, fr 5), (10, fr 10), (11, fr 11), (12, v13)], H)⟩)
@[simp] def r3 (s0 : SpecP) (fr : AFr) (H : AHeap) : ARes :=
 areg (@opi _ (lift (aloadR (some (some 13)) (fr 5) H) H) ⟨fun v14 H =>
 @opi _ (lift (abinR .x .and (fr 3) (fr 4)) H) ⟨fun v17 H =>
 @opi _ (callP false s0 [[none, none, none, none, none, none, none, none, none, none, none, none, none], [none], [none]] [v14, v17, (fr 2)] H) ⟨fun v19 H =>
 @opi _ (liftS (astoreR (some 13) (fr 10) v19 H)) ⟨fun _ H =>
 some (AFr.al [(10, fr 10)], H)⟩⟩⟩⟩)
@[simp] def r4 (fr : AFr) (H : AHeap) : ARes :=
 areg (@opi _ (lift (abinR .x .eql (fr 11) (.int .i64 1)) H) ⟨fun v21 H =>
 some (AFr.al [(1, fr 1), (2, fr 2), (3, fr 3), (4, fr 4), (5, fr 5), (10, fr 10), (11, fr 11), (20, v21)], H)⟩)
@[simp] def r5 (s0 : SpecP) (fr : AFr) (H : AHeap) : ARes :=
 areg (@opi _ (lift (aloadR (some (some 13)) (fr 5) H) H) ⟨fun v22 H =>
 @opi _ (lift (abinR .x .xor (fr 3) (fr 4)) H) ⟨fun v25 H =>
 @opi _ (callP false s0 [[none, none, none, none, none, none, none, none, none, none, none, none, none], [none], [none]] [v22, v25, (fr 2)] H) ⟨fun v27 H =>
 @opi _ (liftS (astoreR (some 13) (fr 10) v27 H)) ⟨fun _ H =>
 some (AFr.al [(10, fr 10)], H)⟩⟩⟩⟩)
@[simp] def r6 (fr : AFr) (H : AHeap) : ARes :=
 areg (@opi _ (lift (abinR .x .eql (fr 11) (.int .i64 2)) H) ⟨fun v29 H =>
 some (AFr.al [(1, fr 1), (2, fr 2), (3, fr 3), (4, fr 4), (5, fr 5), (10, fr 10), (11, fr 11), (28, v29)], H)⟩)
@[simp] def r7 (fr : AFr) (H : AHeap) : ARes :=
 areg (@opi _ (lift (abinR .x .eql (fr 11) (.int .i64 3)) H) ⟨fun v30 H =>
 some (AFr.al [(1, fr 1), (2, fr 2), (3, fr 3), (4, fr 4), (5, fr 5), (10, fr 10), (11, fr 11), (28, v30)], H)⟩)
@[simp] def r8 (fr : AFr) (H : AHeap) : ARes :=
 areg (@opi _ (lift (abinR .x .eql (fr 11) (.int .i64 4)) H) ⟨fun v31 H =>
 some (AFr.al [(1, fr 1), (2, fr 2), (3, fr 3), (4, fr 4), (5, fr 5), (10, fr 10), (11, fr 11), (28, v31)], H)⟩)
@[simp] def r9 (s1 : SpecP) (fr : AFr) (H : AHeap) : ARes :=
 areg (@opi _ (lift (aloadR (some (some 13)) (fr 5) H) H) ⟨fun v32 H =>
 @opi _ (lift (abinR .x .sub (fr 1) (.int .i64 2)) H) ⟨fun v34 H =>
 @opi _ (lift (abinR .x .rem (fr 4) (W32 256#32)) H) ⟨fun v37 H =>
 @opi _ (callP false s1 [[none, none, none, none, none, none, none, none, none, none, none, none, none], [none], [none], [none], [none]] [v32, v34, (fr 3), v37, (fr 2)] H) ⟨fun v39 H =>
 @opi _ (liftS (astoreR (some 13) (fr 10) v39 H)) ⟨fun _ H =>
 some (AFr.al [(10, fr 10)], H)⟩⟩⟩⟩⟩)
@[simp] def r10 (fr : AFr) (H : AHeap) : ARes :=
 areg (@opi _ (lift (abinR .x .eql (fr 11) (.int .i64 5)) H) ⟨fun v41 H =>
 some (AFr.al [(2, fr 2), (3, fr 3), (4, fr 4), (5, fr 5), (10, fr 10), (11, fr 11), (40, v41)], H)⟩)
@[simp] def r11 (s2 : SpecP) (fr : AFr) (H : AHeap) : ARes :=
 areg (@opi _ (lift (aloadR (some (some 13)) (fr 5) H) H) ⟨fun v42 H =>
 @opi _ (lift (afieldAddrR (some 11) (fr 5)) H) ⟨fun v45 H =>
 @opi _ (lift (aloadR (some none) v45 H) H) ⟨fun v46 H =>
 @opi _ (callP false s2 [[none, none, none, none, none, none, none, none, none, none, none, none, none], [none], [none], [none], [none]] [v42, (fr 3), (fr 4), v46, (fr 2)] H) ⟨fun v48 H =>
 @opi _ (liftS (astoreR (some 13) (fr 10) v48 H)) ⟨fun _ H =>
 some (AFr.al [(10, fr 10)], H)⟩⟩⟩⟩⟩)
@[simp] def r12 (fr : AFr) (H : AHeap) : ARes :=
 areg (@opi _ (lift (abinR .x .eql (fr 11) (.int .i64 6)) H) ⟨fun v50 H =>
 some (AFr.al [(2, fr 2), (3, fr 3), (4, fr 4), (5, fr 5), (10, fr 10), (11, fr 11), (49, v50)], H)⟩)
@[simp] def r13 (s2 s3 : SpecP) (fr : AFr) (H : AHeap) : ARes :=
 areg (@opi _ (lift (aloadR (some (some 13)) (fr 5) H) H) ⟨fun v51 H1 =>
 @opi _ (lift (some (fr 3)) H1) ⟨fun v52 H2 =>
 @opi _ (lift (some (fr 4)) H2) ⟨fun v53 H3 =>
 @opi _ (callP false s3 [[none]] [v53] H3) ⟨fun v54 H4 =>
 @opi _ (lift (afieldAddrR (some 11) (fr 5)) H4) ⟨fun v55 H5 =>
 @opi _ (lift (aloadR (some none) v55 H5) H5) ⟨fun v56 H6 =>
 @opi _ (lift (some (fr 2)) H6) ⟨fun v57 H7 =>
 @opi _ (callP false s2 [[none, none, none, none, none, none, none, none, none, none, none, none, none], [none], [none], [none], [none]] [v51, v52, v54, v56, v57] H7) ⟨fun v58 H8 =>
 @opi _ (liftS (astoreR (some 13) (fr 10) v58 H8)) ⟨fun _ H9 =>
 withChk [aloadR (some (some 13)) (fr 5) H3 = aloadR (some (some 13)) (fr 5) H4, aloadR (some none) v55 H3 = aloadR (some none) v55 H4] (some (AFr.al [(10, fr 10)], H9))⟩⟩⟩⟩⟩⟩⟩⟩⟩)
@[simp] def r14 (fr : AFr) (H : AHeap) : ARes :=
 areg (@opi _ (lift (abinR .x .eql (fr 11) (.int .i64 7)) H) ⟨fun v60 H =>
 some (AFr.al [(2, fr 2), (3, fr 3), (4, fr 4), (5, fr 5), (10, fr 10), (11, fr 11), (59, v60)], H)⟩)
@[simp] def r15 (s1 : SpecP) (fr : AFr) (H : AHeap) : ARes :=
 areg (@opi _ (lift (aloadR (some (some 13)) (fr 5) H) H) ⟨fun v61 H =>
 @opi _ (lift (abinR .x .rem (fr 4) (W32 256#32)) H) ⟨fun v64 H =>
 @opi _ (callP false s1 [[none, none, none, none, none, none, none, none, none, none, none, none, none], [none], [none], [none], [none]] [v61, (.int .i64 3), (fr 3), v64, (fr 2)] H) ⟨fun v66 H =>
 @opi _ (liftS (astoreR (some 13) (fr 10) v66 H)) ⟨fun _ H =>
 some (AFr.al [(10, fr 10)], H)⟩⟩⟩⟩)
@[simp] def r16 (fr : AFr) (H : AHeap) : ARes :=
 areg (@opi _ (lift (abinR .x .eql (fr 11) (.int .i64 8)) H) ⟨fun v68 H =>
 some (AFr.al [(2, fr 2), (3, fr 3), (4, fr 4), (5, fr 5), (10, fr 10), (11, fr 11), (67, v68)], H)⟩)
@[simp] def r17 (s0 : SpecP) (fr : AFr) (H : AHeap) : ARes :=
 areg (@opi _ (lift (aloadR (some (some 13)) (fr 5) H) H) ⟨fun v69 H =>
 @opi _ (lift (abinR .x .and (fr 3) (fr 4)) H) ⟨fun v72 H =>
 @opi _ (callP false s0 [[none, none, none, none, none, none, none, none, none, none, none, none, none], [none], [none]] [v69, v72, (.int .i64 (-1))] H) ⟨fun v73 H =>
 @opi _ (liftS (astoreR (some 13) (fr 10) v73 H)) ⟨fun _ H =>
 some (AFr.al [(10, fr 10)], H)⟩⟩⟩⟩)
@[simp] def r18 (fr : AFr) (H : AHeap) : ARes :=
 areg (@opi _ (lift (abinR .x .eql (fr 11) (.int .i64 9)) H) ⟨fun v75 H =>
 some (AFr.al [(2, fr 2), (3, fr 3), (4, fr 4), (5, fr 5), (10, fr 10), (11, fr 11), (74, v75)], H)⟩)
@[simp] def r19 (s2 s3 : SpecP) (fr : AFr) (H : AHeap) : ARes :=
 areg (@opi _ (lift (aloadR (some (some 13)) (fr 5) H) H) ⟨fun v76 H1 =>
 @opi _ (lift (some (fr 4)) H1) ⟨fun v77 H2 =>
 @opi _ (callP false s3 [[none]] [v77] H2) ⟨fun v78 H3 =>
 @opi _ (lift (some (fr 2)) H3) ⟨fun v79 H4 =>
 @opi _ (callP false s2 [[none, none, none, none, none, none, none, none, none, none, none, none, none], [none], [none], [none], [none]] [v76, (W32 0#32), v78, (.bool true), v79] H4) ⟨fun v80 H5 =>
 @opi _ (liftS (astoreR (some 13) (fr 10) v80 H5)) ⟨fun _ H6 =>
 withChk [aloadR (some (some 13)) (fr 5) H2 = aloadR (some (some 13)) (fr 5) H3] (some (AFr.al [(10, fr 10)], H6))⟩⟩⟩⟩⟩⟩)
@[simp] def r20 (fr : AFr) (H : AHeap) : ARes :=
 areg (@opi _ (lift (abinR .x .eql (fr 11) (.int .i64 10)) H) ⟨fun v82 H =>
 some (AFr.al [(2, fr 2), (3, fr 3), (4, fr 4), (5, fr 5), (10, fr 10), (11, fr 11), (81, v82)], H)⟩)
@[simp] def r21 (s2 s3 : SpecP) (fr : AFr) (H : AHeap) : ARes :=
 areg (@opi _ (lift (aloadR (some (some 13)) (fr 5) H) H) ⟨fun v83 H1 =>
 @opi _ (lift (some (fr 3)) H1) ⟨fun v84 H2 =>
 @opi _ (lift (some (fr 4)) H2) ⟨fun v85 H3 =>
 @opi _ (callP false s3 [[none]] [v85] H3) ⟨fun v86 H4 =>
 @opi _ (callP false s2 [[none, none, none, none, none, none, none, none, none, none, none, none, none], [none], [none], [none], [none]] [v83, v84, v86, (.bool true), (.int .i64 (-1))] H4) ⟨fun v87 H5 =>
 @opi _ (liftS (astoreR (some 13) (fr 10) v87 H5)) ⟨fun _ H6 =>
 withChk [aloadR (some (some 13)) (fr 5) H3 = aloadR (some (some 13)) (fr 5) H4] (some (AFr.al [(10, fr 10)], H6))⟩⟩⟩⟩⟩⟩)
@[simp] def r22 (fr : AFr) (H : AHeap) : ARes :=
 areg (@opi _ (lift (abinR .x .eql (fr 11) (.int .i64 11)) H) ⟨fun v89 H =>
 some (AFr.al [(2, fr 2), (3, fr 3), (4, fr 4), (5, fr 5), (10, fr 10), (11, fr 11), (88, v89)], H)⟩)
@[simp] def r23 (s2 : SpecP) (fr : AFr) (H : AHeap) : ARes :=
 areg (@opi _ (lift (aloadR (some (some 13)) (fr 5) H) H) ⟨fun v90 H =>
 @opi _ (callP false s2 [[none, none, none, none, none, none, none, none, none, none, none, none, none], [none], [none], [none], [none]] [v90, (fr 3), (fr 4), (.bool false), (.int .i64 (-1))] H) ⟨fun v93 H =>
 @opi _ (liftS (astoreR (some 13) (fr 10) v93 H)) ⟨fun _ H =>
 some (AFr.al [(10, fr 10)], H)⟩⟩⟩)
@[simp] def r24 (fr : AFr) (H : AHeap) : ARes :=
 areg (@opi _ (lift (abinR .x .eql (fr 11) (.int .i64 12)) H) ⟨fun v95 H =>
 some (AFr.al [(2, fr 2), (3, fr 3), (4, fr 4), (5, fr 5), (10, fr 10), (11, fr 11), (94, v95)], H)⟩)
@[simp] def r25 (s0 : SpecP) (fr : AFr) (H : AHeap) : ARes :=
 areg (@opi _ (lift (aloadR (some (some 13)) (fr 5) H) H) ⟨fun v96 H =>
 @opi _ (lift (abinR .x .or (fr 3) (fr 4)) H) ⟨fun v99 H =>
 @opi _ (callP false s0 [[none, none, none, none, none, none, none, none, none, none, none, none, none], [none], [none]] [v96, v99, (fr 2)] H) ⟨fun v101 H =>
 @opi _ (liftS (astoreR (some 13) (fr 10) v101 H)) ⟨fun _ H =>
 some (AFr.al [(10, fr 10)], H)⟩⟩⟩⟩)
@[simp] def r26 (fr : AFr) (H : AHeap) : ARes :=
 areg (@opi _ (lift (abinR .x .eql (fr 11) (.int .i64 13)) H) ⟨fun v103 H =>
 some (AFr.al [(2, fr 2), (3, fr 3), (4, fr 4), (5, fr 5), (10, fr 10), (11, fr 11), (102, v103)], H)⟩)
@[simp] def r27 (s0 : SpecP) (fr : AFr) (H : AHeap) : ARes :=
 areg (@opi _ (lift (aloadR (some (some 13)) (fr 5) H) H) ⟨fun v104 H =>
 @opi _ (lift (abinR .x .mul (fr 3) (fr 4)) H) ⟨fun v107 H =>
 @opi _ (callP false s0 [[none, none, none, none, none, none, none, none, none, none, none, none, none], [none], [none]] [v104, v107, (fr 2)] H) ⟨fun v109 H =>
 @opi _ (liftS (astoreR (some 13) (fr 10) v109 H)) ⟨fun _ H =>
 some (AFr.al [(10, fr 10)], H)⟩⟩⟩⟩)
@[simp] def r28 (fr : AFr) (H : AHeap) : ARes :=
 areg (@opi _ (lift (abinR .x .eql (fr 11) (.int .i64 14)) H) ⟨fun v111 H =>
 some (AFr.al [(2, fr 2), (3, fr 3), (4, fr 4), (5, fr 5), (10, fr 10), (110, v111)], H)⟩)
@[simp] def r29 (s0 s3 : SpecP) (fr : AFr) (H : AHeap) : ARes :=
 areg (@opi _ (lift (aloadR (some (some 13)) (fr 5) H) H) ⟨fun v112 H1 =>
 @opi _ (lift (some (fr 3)) H1) ⟨fun v113 H2 =>
 @opi _ (lift (some (fr 4)) H2) ⟨fun v114 H3 =>
 @opi _ (callP false s3 [[none]] [v114] H3) ⟨fun v115 H4 =>
 @opi _ (lift (abinR .x .and v113 v115) H4) ⟨fun v116 H5 =>
 @opi _ (lift (some (fr 2)) H5) ⟨fun v117 H6 =>
 @opi _ (callP false s0 [[none, none, none, none, none, none, none, none, none, none, none, none, none], [none], [none]] [v112, v116, v117] H6) ⟨fun v118 H7 =>
 @opi _ (liftS (astoreR (some 13) (fr 10) v118 H7)) ⟨fun _ H8 =>
 withChk [aloadR (some (some 13)) (fr 5) H3 = aloadR (some (some 13)) (fr 5) H4] (some (AFr.al [(10, fr 10)], H8))⟩⟩⟩⟩⟩⟩⟩⟩)
@[simp] def r30 (s0 s3 : SpecP) (fr : AFr) (H : AHeap) : ARes :=
 areg (@opi _ (lift (aloadR (some (some 13)) (fr 5) H) H) ⟨fun v119 H1 =>
 @opi _ (lift (some (fr 4)) H1) ⟨fun v120 H2 =>
 @opi _ (callP false s3 [[none]] [v120] H2) ⟨fun v121 H3 =>
 @opi _ (lift (some (fr 2)) H3) ⟨fun v122 H4 =>
 @opi _ (callP false s0 [[none, none, none, none, none, none, none, none, none, none, none, none, none], [none], [none]] [v119, v121, v122] H4) ⟨fun v123 H5 =>
 @opi _ (liftS (astoreR (some 13) (fr 10) v123 H5)) ⟨fun _ H6 =>
 withChk [aloadR (some (some 13)) (fr 5) H2 = aloadR (some (some 13)) (fr 5) H3] (some (AFr.al [(10, fr 10)], H6))⟩⟩⟩⟩⟩⟩)
@[simp] def body (s0 s1 s2 s3 : SpecP) (fr : AFr) (H : AHeap) : ARes :=
  @aseqi (r0 fr H) ⟨fun fr H =>
 @aseqi (@aseqi (r1 fr H) ⟨fun fr H =>
  aexit 0 (@aseqi (r2 fr H) ⟨fun fr H =>
 @acondi (fr 12)
 ⟨@aseqi (r3 s0 fr H) ⟨fun fr H =>
 some (.ret, fr, H)⟩⟩
 ⟨@aseqi (r4 fr H) ⟨fun fr H =>
 @acondi (fr 20)
 ⟨@aseqi (r5 s0 fr H) ⟨fun fr H =>
 some (.ret, fr, H)⟩⟩
 ⟨@aseqi (@aseqi (r6 fr H) ⟨fun fr H =>
 @acondi (fr 28)
 ⟨some (.normal, fr, H)⟩
 ⟨@aseqi (r7 fr H) ⟨fun fr H =>
 @acondi (fr 28)
 ⟨some (.normal, fr, H)⟩
 ⟨r8 fr H⟩⟩⟩⟩) ⟨fun fr H =>
 @acondi (fr 28)
 ⟨@aseqi (r9 s1 fr H) ⟨fun fr H =>
 some (.ret, fr, H)⟩⟩
 ⟨@aseqi (r10 fr H) ⟨fun fr H =>
 @acondi (fr 40)
 ⟨@aseqi (r11 s2 fr H) ⟨fun fr H =>
 some (.ret, fr, H)⟩⟩
 ⟨@aseqi (r12 fr H) ⟨fun fr H =>
 @acondi (fr 49)
 ⟨@aseqi (r13 s2 s3 fr H) ⟨fun fr H =>
 some (.ret, fr, H)⟩⟩
 ⟨@aseqi (r14 fr H) ⟨fun fr H =>
 @acondi (fr 59)
 ⟨@aseqi (r15 s1 fr H) ⟨fun fr H =>
 some (.ret, fr, H)⟩⟩
 ⟨@aseqi (r16 fr H) ⟨fun fr H =>
 @acondi (fr 67)
 ⟨@aseqi (r17 s0 fr H) ⟨fun fr H =>
 some (.ret, fr, H)⟩⟩
 ⟨@aseqi (r18 fr H) ⟨fun fr H =>
 @acondi (fr 74)
 ⟨@aseqi (r19 s2 s3 fr H) ⟨fun fr H =>
 some (.ret, fr, H)⟩⟩
 ⟨@aseqi (r20 fr H) ⟨fun fr H =>
 @acondi (fr 81)
 ⟨@aseqi (r21 s2 s3 fr H) ⟨fun fr H =>
 some (.ret, fr, H)⟩⟩
 ⟨@aseqi (r22 fr H) ⟨fun fr H =>
 @acondi (fr 88)
 ⟨@aseqi (r23 s2 fr H) ⟨fun fr H =>
 some (.ret, fr, H)⟩⟩
 ⟨@aseqi (r24 fr H) ⟨fun fr H =>
 @acondi (fr 94)
 ⟨@aseqi (r25 s0 fr H) ⟨fun fr H =>
 some (.ret, fr, H)⟩⟩
 ⟨@aseqi (r26 fr H) ⟨fun fr H =>
 @acondi (fr 102)
 ⟨@aseqi (r27 s0 fr H) ⟨fun fr H =>
 some (.ret, fr, H)⟩⟩
 ⟨@aseqi (r28 fr H) ⟨fun fr H =>
 @acondi (fr 110)
 ⟨@aseqi (r29 s0 s3 fr H) ⟨fun fr H =>
 some (.ret, fr, H)⟩⟩
 ⟨some (.normal, fr, H)⟩⟩⟩⟩⟩⟩⟩⟩⟩⟩⟩⟩⟩⟩⟩⟩⟩⟩⟩⟩⟩⟩⟩⟩⟩⟩)⟩) ⟨fun fr H =>
 @aseqi (r30 s0 s3 fr H) ⟨fun fr H =>
 some (.ret, fr, H)⟩⟩⟩
@[simp] def res (fr : AFr) (H : AHeap) : Option (List AV) := res2 (aloadR (some (some 13)) (fr 10) H) (some [])
end ref06_alu
def ref06_alu (a0 a1 a2 a3 a4 : AV) : Option AV := closeUpR (some [[none, none, none, none, none, none, none, none, none, none, none, none, none]]) (afinR ref06_alu.res (ref06_alu.body ref06_put.spec ref06_shift.spec ref06_sum.spec ref06_not.spec (args0 [a0, a1, a2, a3, a4]) AHeap.empty))
def ref06_alu.spec : List AV → Option AV
  | [a0, a1, a2, a3, a4] => ref06_alu a0 a1 a2 a3 a4
  | _ => none
namespace ref06_Holds
@[simp] def r0 (fr : AFr) (H : AHeap) : ARes :=
 areg (@opi _ (abox T.ty_api_State (fr 1) H) ⟨fun v3 H =>
 some (AFr.al [(0, fr 0), (3, v3)], H)⟩)
@[simp] def r1 (fr : AFr) (H : AHeap) : ARes :=
 areg (@opi _ (lift (abinR .x .lss (fr 0) (.int .i64 0)) H) ⟨fun v6 H =>
 @opi _ (@gdi (gw v6 false) ⟨lift (some (fr 0)) H⟩ H) ⟨fun v8 H =>
 @opi _ (@gdi (gw v6 false) ⟨lift (abinR .x .gtr v8 (.int .i64 13)) H⟩ H) ⟨fun v9 H =>
 @opi _ (lift (apick v6 (.bool true) v9) H) ⟨fun v10 H =>
 some (AFr.al [(0, fr 0), (3, fr 3), (10, v10)], H)⟩⟩⟩⟩)
@[simp] def r2 (fr : AFr) (H : AHeap) : ARes :=
 areg (some (AFr.al [(4, (.bool false))], H))
@[simp] def r3 (fr : AFr) (H : AHeap) : ARes :=
 areg (@opi _ (lift (afieldAddrR (some 10) (fr 3)) H) ⟨fun v11 H =>
 @opi _ (lift (aloadR (some none) v11 H) H) ⟨fun v12 H =>
 @opi _ (lift (afieldAddrR (some 10) (fr 3)) H) ⟨fun v13 H =>
 @opi _ (lift (aloadR (some none) v13 H) H) ⟨fun v14 H =>
 @opi _ (lift (aun .not v14) H) ⟨fun v15 H =>
 @opi _ (lift (afieldAddrR (some 11) (fr 3)) H) ⟨fun v16 H =>
 @opi _ (lift (aloadR (some none) v16 H) H) ⟨fun v17 H =>
 @opi _ (lift (afieldAddrR (some 11) (fr 3)) H) ⟨fun v18 H =>
 @opi _ (lift (aloadR (some none) v18 H) H) ⟨fun v19 H =>
 @opi _ (lift (aun .not v19) H) ⟨fun v20 H =>
 @opi _ (lift (afieldAddrR (some 9) (fr 3)) H) ⟨fun v21 H =>
 @opi _ (lift (aloadR (some none) v21 H) H) ⟨fun v22 H =>
 @opi _ (lift (afieldAddrR (some 9) (fr 3)) H) ⟨fun v23 H =>
 @opi _ (lift (aloadR (some none) v23 H) H) ⟨fun v24 H =>
 @opi _ (lift (aun .not v24) H) ⟨fun v25 H =>
 @opi _ (lift (afieldAddrR (some 12) (fr 3)) H) ⟨fun v26 H =>
 @opi _ (lift (aloadR (some none) v26 H) H) ⟨fun v27 H =>
 @opi _ (lift (afieldAddrR (some 12) (fr 3)) H) ⟨fun v28 H =>
 @opi _ (lift (aloadR (some none) v28 H) H) ⟨fun v29 H =>
 @opi _ (lift (aun .not v29) H) ⟨fun v30 H =>
 @opi _ (lift (afieldAddrR (some 11) (fr 3)) H) ⟨fun v31 H =>
 @opi _ (lift (aloadR (some none) v31 H) H) ⟨fun v32 H =>
 @opi _ (@gdi (gw v32 true) ⟨lift (afieldAddrR (some 10) (fr 3)) H⟩ H) ⟨fun v34 H =>
 @opi _ (@gdi (gw v32 true) ⟨lift (aloadR (some none) v34 H) H⟩ H) ⟨fun v35 H =>
 @opi _ (@gdi (gw v32 true) ⟨lift (aun .not v35) H⟩ H) ⟨fun v36 H =>
 @opi _ (lift (apick v32 v36 (.bool false)) H) ⟨fun v37 H =>
 @opi _ (lift (afieldAddrR (some 11) (fr 3)) H) ⟨fun v38 H =>
 @opi _ (lift (aloadR (some none) v38 H) H) ⟨fun v39 H =>
 @opi _ (lift (aun .not v39) H) ⟨fun v40 H =>
 @opi _ (@gdi (gw v40 false) ⟨lift (afieldAddrR (some 10) (fr 3)) H⟩ H) ⟨fun v42 H =>
 @opi _ (@gdi (gw v40 false) ⟨lift (aloadR (some none) v42 H) H⟩ H) ⟨fun v43 H =>
 @opi _ (lift (apick v40 (.bool true) v43) H) ⟨fun v44 H =>
 @opi _ (lift (afieldAddrR (some 9) (fr 3)) H) ⟨fun v45 H =>
 @opi _ (lift (aloadR (some none) v45 H) H) ⟨fun v46 H =>
 @opi _ (lift (afieldAddrR (some 12) (fr 3)) H) ⟨fun v47 H =>
 @opi _ (lift (aloadR (some none) v47 H) H) ⟨fun v48 H =>
 @opi _ (lift (abinR .b .eql v46 v48) H) ⟨fun v49 H =>
 @opi _ (lift (afieldAddrR (some 9) (fr 3)) H) ⟨fun v50 H =>
 @opi _ (lift (aloadR (some none) v50 H) H) ⟨fun v51 H =>
 @opi _ (lift (afieldAddrR (some 12) (fr 3)) H) ⟨fun v52 H =>
 @opi _ (lift (aloadR (some none) v52 H) H) ⟨fun v53 H =>
 @opi _ (lift (abinR .b .neq v51 v53) H) ⟨fun v54 H =>
 @opi _ (lift (afieldAddrR (some 10) (fr 3)) H) ⟨fun v55 H =>
 @opi _ (lift (aloadR (some none) v55 H) H) ⟨fun v56 H =>
 @opi _ (lift (aun .not v56) H) ⟨fun v57 H =>
 @opi _ (@gdi (gw v57 true) ⟨lift (afieldAddrR (some 9) (fr 3)) H⟩ H) ⟨fun v59 H =>
 @opi _ (@gdi (gw v57 true) ⟨lift (aloadR (some none) v59 H) H⟩ H) ⟨fun v60 H =>
 @opi _ (@gdi (gw v57 true) ⟨lift (afieldAddrR (some 12) (fr 3)) H⟩ H) ⟨fun v61 H =>
 @opi _ (@gdi (gw v57 true) ⟨lift (aloadR (some none) v61 H) H⟩ H) ⟨fun v62 H =>
 @opi _ (@gdi (gw v57 true) ⟨lift (abinR .b .eql v60 v62) H⟩ H) ⟨fun v63 H =>
 @opi _ (lift (apick v57 v63 (.bool false)) H) ⟨fun v64 H =>
 @opi _ (lift (afieldAddrR (some 10) (fr 3)) H) ⟨fun v65 H =>
 @opi _ (lift (aloadR (some none) v65 H) H) ⟨fun v66 H =>
 @opi _ (@gdi (gw v66 false) ⟨lift (afieldAddrR (some 9) (fr 3)) H⟩ H) ⟨fun v68 H =>
 @opi _ (@gdi (gw v66 false) ⟨lift (aloadR (some none) v68 H) H⟩ H) ⟨fun v69 H =>
 @opi _ (@gdi (gw v66 false) ⟨lift (afieldAddrR (some 12) (fr 3)) H⟩ H) ⟨fun v70 H =>
 @opi _ (@gdi (gw v66 false) ⟨lift (aloadR (some none) v70 H) H⟩ H) ⟨fun v71 H =>
 @opi _ (@gdi (gw v66 false) ⟨lift (abinR .b .neq v69 v71) H⟩ H) ⟨fun v72 H =>
 @opi _ (lift (apick v66 (.bool true) v72) H) ⟨fun v73 H =>
 @opi _ (abuildSliceR (some ⟨T.ty_bool, 1, 1, [(.bool false)]⟩) 14 [(0, v12), (1, v15), (2, v17), (3, v20), (4, v22), (5, v25), (6, v27), (7, v30), (8, v37), (9, v44), (10, v49), (11, v54), (12, v64), (13, v73)] H) ⟨fun v74 H =>
 @opi _ (lift (aindexAddrR (.sl 1) v74 (fr 0)) H) ⟨fun v76 H =>
 @opi _ (lift (aloadR (some none) v76 H) H) ⟨fun v77 H =>
 some (AFr.al [(4, v77)], H)⟩⟩⟩⟩⟩⟩⟩⟩⟩⟩⟩⟩⟩⟩⟩⟩⟩⟩⟩⟩⟩⟩⟩⟩⟩⟩⟩⟩⟩⟩⟩⟩⟩⟩⟩⟩⟩⟩⟩⟩⟩⟩⟩⟩⟩⟩⟩⟩⟩⟩⟩⟩⟩⟩⟩⟩⟩⟩⟩⟩⟩⟩)
@[simp] def body (fr : AFr) (H : AHeap) : ARes :=
  @aseqi (r0 fr H) ⟨fun fr H =>
 @aseqi (@aseqi (r1 fr H) ⟨fun fr H =>
 @acondi (fr 10)
 ⟨@aseqi (r2 fr H) ⟨fun fr H =>
 some (.ret, fr, H)⟩⟩
 ⟨some (.normal, fr, H)⟩⟩) ⟨fun fr H =>
 @aseqi (r3 fr H) ⟨fun fr H =>
 some (.ret, fr, H)⟩⟩⟩
@[simp] def res (fr : AFr) (H : AHeap) : Option (List AV) := res2 (some (fr 4)) (some [])
end ref06_Holds
def ref06_Holds (a0 a1 : AV) : Option AV := closeUpR (some [[none]]) (afinR ref06_Holds.res (ref06_Holds.body (args0 [a0, a1]) AHeap.empty))
def ref06_Holds.spec : List AV → Option AV
  | [a0, a1] => ref06_Holds a0 a1
  | _ => none
namespace ref06_Step
@[simp] def r0 (fr : AFr) (H : AHeap) : ARes :=
 areg (@opi _ (abox T.ty_api_State (fr 0) H) ⟨fun v2 H =>
 @opi _ (aallocR T.ty_api_State (some (.agg [(W32 0#32), (W32 0#32), (W32 0#32), (W32 0#32), (W32 0#32), (W32 0#32), (W32 0#32), (W32 0#32), (W32 0#32), (.bool false), (.bool false), (.bool false), (.bool false)])) H) ⟨fun v4 H =>
 some (AFr.al [(1, fr 1), (2, v2), (4, v4)], H)⟩⟩)
@[simp] def r1 (s0 : SpecM) (fr : AFr) (H : AHeap) : ARes :=
 areg (@opi _ (lift (afieldAddrR (some 8) (fr 2)) H) ⟨fun v19 H =>
 @opi _ (lift (aloadR (some none) v19 H) H) ⟨fun v20 H =>
 @opi _ (callM [false, false] s0 [[none], [none]] [(fr 1), v20] H) ⟨fun v21 H =>
 @opi _ (lift (aextract v21 0) H) ⟨fun v22 H =>
 @opi _ (lift (aextract v21 1) H) ⟨fun v23 H =>
 some (AFr.al [(1, fr 1), (2, fr 2), (4, fr 4), (7, v22), (8, v23)], H)⟩⟩⟩⟩⟩)
@[simp] def r2 (fr : AFr) (H : AHeap) : ARes :=
 areg (@opi _ (lift (abinR .x .neq (fr 8) (.int .i64 0)) H) ⟨fun v25 H =>
 some (AFr.al [(1, fr 1), (2, fr 2), (4, fr 4), (7, fr 7), (8, fr 8), (25, v25)], H)⟩)
@[simp] def r3 (fr : AFr) (H : AHeap) : ARes :=
 areg (@opi _ (lift (aloadR (some (some 13)) (fr 2) H) H) ⟨fun v26 H =>
 @opi _ (liftS (astoreR (some 13) (fr 4) v26 H)) ⟨fun _ H =>
 some (AFr.al [(4, fr 4), (5, (.bool false)), (6, (fr 8))], H)⟩⟩)
@[simp] def r4 (s1 : SpecP) (fr : AFr) (H : AHeap) : ARes :=
 areg (@opi _ (callP false s1 [[none]] [(fr 7)] H) ⟨fun v30 H =>
 @opi _ (lift (aextract v30 0) H) ⟨fun v31 H =>
 @opi _ (lift (aextract v30 1) H) ⟨fun v32 H =>
 @opi _ (aallocR T.ty_api_Ins (some (.agg [(.int .i64 0), (.int .i64 0), (.int .i64 0), (.int .i64 0), (.int .i64 0)])) H) ⟨fun v9 H =>
 @opi _ (liftS (astoreR (some 5) v9 v31 H)) ⟨fun _ H =>
 some (AFr.al [(1, fr 1), (2, fr 2), (4, fr 4), (9, v9), (10, v32)], H)⟩⟩⟩⟩⟩)
@[simp] def r5 (fr : AFr) (H : AHeap) : ARes :=
 areg (@opi _ (lift (abinR .x .neq (fr 10) (.int .i64 0)) H) ⟨fun v34 H =>
 some (AFr.al [(1, fr 1), (2, fr 2), (4, fr 4), (9, fr 9), (10, fr 10), (34, v34)], H)⟩)
@[simp] def r6 (fr : AFr) (H : AHeap) : ARes :=
 areg (@opi _ (lift (aloadR (some (some 13)) (fr 2) H) H) ⟨fun v35 H =>
 @opi _ (liftS (astoreR (some 13) (fr 4) v35 H)) ⟨fun _ H =>
 some (AFr.al [(4, fr 4), (5, (.bool false)), (6, (fr 10))], H)⟩⟩)
@[simp] def r7 (fr : AFr) (H : AHeap) : ARes :=
 areg (@opi _ (lift (afieldAddrR (some 4) (fr 9)) H) ⟨fun v37 H1 =>
 @opi _ (lift (aloadR (some none) v37 H1) H1) ⟨fun v38 H2 =>
 @opi _ (lift (aconvR (some .u32) v38) H2) ⟨fun v39 H3 =>
 @opi _ (lift (aloadR (some (some 13)) (fr 2) H3) H3) ⟨fun v40 H4 =>
 @opi _ (lift (afieldAddrR (some 8) (fr 2)) H4) ⟨fun v41 H5 =>
 @opi _ (lift (aloadR (some none) v41 H5) H5) ⟨fun v42 H6 =>
 @opi _ (lift (abinR .x .add v42 (W32 2#32)) H6) ⟨fun v43 H7 =>
 @opi _ (aallocR T.ty_api_State (some (.agg [(W32 0#32), (W32 0#32), (W32 0#32), (W32 0#32), (W32 0#32), (W32 0#32), (W32 0#32), (W32 0#32), (W32 0#32), (.bool false), (.bool false), (.bool false), (.bool false)])) H7) ⟨fun v12 H8 =>
 @opi _ (lift (some v39) H8) ⟨fun v11 H9 =>
 @opi _ (liftS (astoreR (some 13) v12 v40 H9)) ⟨fun _ H10 =>
 @opi _ (lift (some v43) H10) ⟨fun v13 H11 =>
 withChk [aloadR (some none) v41 H9 = aloadR (some none) v41 H10] (some (AFr.al [(1, fr 1), (2, fr 2), (4, fr 4), (9, fr 9), (11, v11), (12, v12), (13, v13)], H11))⟩⟩⟩⟩⟩⟩⟩⟩⟩⟩⟩)
@[simp] def r8 (fr : AFr) (H : AHeap) : ARes :=
 areg (@opi _ (lift (afieldAddrR (some 1) (fr 9)) H) ⟨fun v44 H1 =>
 @opi _ (lift (aloadR (some none) v44 H1) H1) ⟨fun v45 H2 =>
 @opi _ (lift (abinR .x .rem v45 (.int .i64 8)) H2) ⟨fun v46 H3 =>
 @opi _ (lift (afieldAddrR (some 0) (fr 2)) H3) ⟨fun v47 H4 =>
 @opi _ (lift (aindexAddrR (.arr 8 1) v47 v46) H4) ⟨fun v48 H5 =>
 @opi _ (lift (aloadR (some none) v48 H5) H5) ⟨fun v49 H6 =>
 @opi _ (lift (afieldAddrR (some 2) (fr 9)) H6) ⟨fun v50 H7 =>
 @opi _ (lift (aloadR (some none) v50 H7) H7) ⟨fun v51 H8 =>
 @opi _ (lift (afieldAddrR (some 0) (fr 2)) H8) ⟨fun v52 H9 =>
 @opi _ (lift (aindexAddrR (.arr 8 1) v52 v51) H9) ⟨fun v53 H10 =>
 @opi _ (lift (aloadR (some none) v53 H10) H10) ⟨fun v54 H11 =>
 @opi _ (lift (afieldAddrR (some 3) (fr 9)) H11) ⟨fun v55 H12 =>
 @opi _ (lift (aloadR (some none) v55 H12) H12) ⟨fun v56 H13 =>
 @opi _ (lift (afieldAddrR (some 0) (fr 2)) H13) ⟨fun v57 H14 =>
 @opi _ (lift (aindexAddrR (.arr 8 1) v57 v56) H14) ⟨fun v58 H15 =>
 @opi _ (lift (aloadR (some none) v58 H15) H15) ⟨fun v59 H16 =>
 @opi _ (lift (some v49) H16) ⟨fun v14 H17 =>
 @opi _ (lift (some v54) H17) ⟨fun v15 H18 =>
 @opi _ (lift (some v59) H18) ⟨fun v16 H19 =>
 some (AFr.al [(1, fr 1), (2, fr 2), (4, fr 4), (9, fr 9), (11, fr 11), (12, fr 12), (13, fr 13), (14, v14), (15, v15), (16, v16)], H19)⟩⟩⟩⟩⟩⟩⟩⟩⟩⟩⟩⟩⟩⟩⟩⟩⟩⟩⟩)
@[simp] def r9 (fr : AFr) (H : AHeap) : ARes :=
 areg (some (AFr.al [(1, fr 1), (2, fr 2), (4, fr 4), (8, (.int .i64 0)), (9, fr 9), (11, fr 11), (12, fr 12), (13, fr 13), (14, fr 14), (15, fr 15), (16, fr 16)], H))
@[simp] def r10 (fr : AFr) (H : AHeap) : ARes :=
 areg (@opi _ (lift (afieldAddrR (some 0) (fr 9)) H) ⟨fun v60 H =>
 @opi _ (lift (aloadR (some none) v60 H) H) ⟨fun v61 H =>
 some (AFr.al [(1, fr 1), (2, fr 2), (4, fr 4), (8, fr 8), (9, fr 9), (11, fr 11), (12, fr 12), (13, fr 13), (14, fr 14), (15, fr 15), (16, fr 16), (61, v61)], H)⟩⟩)
@[simp] def r11 (fr : AFr) (H : AHeap) : ARes :=
 areg (@opi _ (lift (abinR .x .eql (fr 61) (.int .i64 0)) H) ⟨fun v63 H =>
 some (AFr.al [(1, fr 1), (2, fr 2), (4, fr 4), (8, fr 8), (9, fr 9), (11, fr 11), (12, fr 12), (13, fr 13), (14, fr 14), (15, fr 15), (16, fr 16), (61, fr 61), (62, v63)], H)⟩)
@[simp] def r12 (s2 : SpecP) (fr : AFr) (H : AHeap) : ARes :=
 areg (@opi _ (lift (aloadR (some (some 13)) (fr 2) H) H) ⟨fun v64 H =>
 @opi _ (lift (afieldAddrR (some 1) (fr 9)) H) ⟨fun v66 H =>
 @opi _ (lift (aloadR (some none) v66 H) H) ⟨fun v67 H =>
 @opi _ (callP false s2 [[none, none, none, none, none, none, none, none, none, none, none, none, none], [none], [none]] [v64, (fr 11), v67] H) ⟨fun v68 H =>
 @opi _ (liftS (astoreR (some 13) (fr 12) v68 H)) ⟨fun _ H =>
 some (AFr.al [(2, fr 2), (4, fr 4), (8, fr 8), (12, fr 12), (13, fr 13)], H)⟩⟩⟩⟩⟩)
@[simp] def r13 (fr : AFr) (H : AHeap) : ARes :=
 areg (@opi _ (lift (abinR .x .eql (fr 61) (.int .i64 1)) H) ⟨fun v70 H =>
 some (AFr.al [(1, fr 1), (2, fr 2), (4, fr 4), (8, fr 8), (9, fr 9), (11, fr 11), (12, fr 12), (13, fr 13), (14, fr 14), (15, fr 15), (16, fr 16), (61, fr 61), (69, v70)], H)⟩)
@[simp] def r14 (s3 s4 : SpecP) (fr : AFr) (H : AHeap) : ARes :=
 areg (@opi _ (lift (aloadR (some (some 13)) (fr 2) H) H) ⟨fun v71 H1 =>
 @opi _ (lift (some (fr 14)) H1) ⟨fun v72 H2 =>
 @opi _ (lift (some (fr 11)) H2) ⟨fun v73 H3 =>
 @opi _ (callP false s3 [[none]] [v73] H3) ⟨fun v74 H4 =>
 @opi _ (callP false s4 [[none, none, none, none, none, none, none, none, none, none, none, none, none], [none], [none], [none], [none]] [v71, v72, v74, (.bool true), (.int .i64 (-1))] H4) ⟨fun v75 H5 =>
 @opi _ (liftS (astoreR (some 13) (fr 12) v75 H5)) ⟨fun _ H6 =>
 withChk [aloadR (some (some 13)) (fr 2) H3 = aloadR (some (some 13)) (fr 2) H4] (some (AFr.al [(2, fr 2), (4, fr 4), (8, fr 8), (12, fr 12), (13, fr 13)], H6))⟩⟩⟩⟩⟩⟩)
@[simp] def r15 (fr : AFr) (H : AHeap) : ARes :=
 areg (@opi _ (lift (abinR .x .eql (fr 61) (.int .i64 2)) H) ⟨fun v77 H =>
 some (AFr.al [(1, fr 1), (2, fr 2), (4, fr 4), (8, fr 8), (9, fr 9), (11, fr 11), (12, fr 12), (13, fr 13), (14, fr 14), (15, fr 15), (16, fr 16), (61, fr 61), (76, v77)], H)⟩)
@[simp] def r16 (s4 : SpecP) (fr : AFr) (H : AHeap) : ARes :=
 areg (@opi _ (lift (aloadR (some (some 13)) (fr 2) H) H) ⟨fun v78 H =>
 @opi _ (lift (afieldAddrR (some 1) (fr 9)) H) ⟨fun v81 H =>
 @opi _ (lift (aloadR (some none) v81 H) H) ⟨fun v82 H =>
 @opi _ (callP false s4 [[none, none, none, none, none, none, none, none, none, none, none, none, none], [none], [none], [none], [none]] [v78, (fr 14), (fr 11), (.bool false), v82] H) ⟨fun v83 H =>
 @opi _ (liftS (astoreR (some 13) (fr 12) v83 H)) ⟨fun _ H =>
 some (AFr.al [(2, fr 2), (4, fr 4), (8, fr 8), (12, fr 12), (13, fr 13)], H)⟩⟩⟩⟩⟩)
@[simp] def r17 (fr : AFr) (H : AHeap) : ARes :=
 areg (@opi _ (lift (abinR .x .eql (fr 61) (.int .i64 3)) H) ⟨fun v85 H =>
 some (AFr.al [(1, fr 1), (2, fr 2), (4, fr 4), (8, fr 8), (9, fr 9), (11, fr 11), (12, fr 12), (13, fr 13), (14, fr 14), (15, fr 15), (16, fr 16), (61, fr 61), (84, v85)], H)⟩)
@[simp] def r18 (s3 s4 : SpecP) (fr : AFr) (H : AHeap) : ARes :=
 areg (@opi _ (lift (aloadR (some (some 13)) (fr 2) H) H) ⟨fun v86 H1 =>
 @opi _ (lift (some (fr 14)) H1) ⟨fun v87 H2 =>
 @opi _ (lift (some (fr 11)) H2) ⟨fun v88 H3 =>
 @opi _ (callP false s3 [[none]] [v88] H3) ⟨fun v89 H4 =>
 @opi _ (lift (afieldAddrR (some 1) (fr 9)) H4) ⟨fun v90 H5 =>
 @opi _ (lift (aloadR (some none) v90 H5) H5) ⟨fun v91 H6 =>
 @opi _ (callP false s4 [[none, none, none, none, none, none, none, none, none, none, none, none, none], [none], [none], [none], [none]] [v86, v87, v89, (.bool true), v91] H6) ⟨fun v92 H7 =>
 @opi _ (liftS (astoreR (some 13) (fr 12) v92 H7)) ⟨fun _ H8 =>
 withChk [aloadR (some (some 13)) (fr 2) H3 = aloadR (some (some 13)) (fr 2) H4, aloadR (some none) v90 H3 = aloadR (some none) v90 H4] (some (AFr.al [(2, fr 2), (4, fr 4), (8, fr 8), (12, fr 12), (13, fr 13)], H8))⟩⟩⟩⟩⟩⟩⟩⟩)
@[simp] def r19 (fr : AFr) (H : AHeap) : ARes :=
 areg (@opi _ (lift (abinR .x .eql (fr 61) (.int .i64 4)) H) ⟨fun v94 H =>
 some (AFr.al [(1, fr 1), (2, fr 2), (4, fr 4), (8, fr 8), (9, fr 9), (11, fr 11), (12, fr 12), (13, fr 13), (14, fr 14), (15, fr 15), (16, fr 16), (61, fr 61), (93, v94)], H)⟩)
@[simp] def r20 (fr : AFr) (H : AHeap) : ARes :=
 areg (@opi _ (lift (abinR .x .eql (fr 61) (.int .i64 5)) H) ⟨fun v95 H =>
 some (AFr.al [(1, fr 1), (2, fr 2), (4, fr 4), (8, fr 8), (9, fr 9), (11, fr 11), (12, fr 12), (13, fr 13), (14, fr 14), (15, fr 15), (16, fr 16), (61, fr 61), (93, v95)], H)⟩)
@[simp] def r21 (fr : AFr) (H : AHeap) : ARes :=
 areg (@opi _ (lift (abinR .x .eql (fr 61) (.int .i64 6)) H) ⟨fun v96 H =>
 some (AFr.al [(1, fr 1), (2, fr 2), (4, fr 4), (8, fr 8), (9, fr 9), (11, fr 11), (12, fr 12), (13, fr 13), (14, fr 14), (15, fr 15), (16, fr 16), (61, fr 61), (93, v96)], H)⟩)
@[simp] def r22 (s5 : SpecP) (fr : AFr) (H : AHeap) : ARes :=
 areg (@opi _ (lift (aloadR (some (some 13)) (fr 2) H) H) ⟨fun v97 H =>
 @opi _ (lift (afieldAddrR (some 0) (fr 9)) H) ⟨fun v98 H =>
 @opi _ (lift (aloadR (some none) v98 H) H) ⟨fun v99 H =>
 @opi _ (lift (abinR .x .sub v99 (.int .i64 4)) H) ⟨fun v100 H =>
 @opi _ (lift (afieldAddrR (some 1) (fr 9)) H) ⟨fun v103 H =>
 @opi _ (lift (aloadR (some none) v103 H) H) ⟨fun v104 H =>
 @opi _ (callP false s5 [[none, none, none, none, none, none, none, none, none, none, none, none, none], [none], [none], [none], [none]] [v97, v100, (fr 16), (fr 11), v104] H) ⟨fun v105 H =>
 @opi _ (liftS (astoreR (some 13) (fr 12) v105 H)) ⟨fun _ H =>
 some (AFr.al [(2, fr 2), (4, fr 4), (8, fr 8), (12, fr 12), (13, fr 13)], H)⟩⟩⟩⟩⟩⟩⟩⟩)
@[simp] def r23 (fr : AFr) (H : AHeap) : ARes :=
 areg (@opi _ (lift (abinR .x .eql (fr 61) (.int .i64 7)) H) ⟨fun v107 H =>
 some (AFr.al [(1, fr 1), (2, fr 2), (4, fr 4), (8, fr 8), (9, fr 9), (11, fr 11), (12, fr 12), (13, fr 13), (14, fr 14), (15, fr 15), (16, fr 16), (61, fr 61), (106, v107)], H)⟩)
@[simp] def r24 (s4 : SpecP) (fr : AFr) (H : AHeap) : ARes :=
 areg (@opi _ (lift (aloadR (some (some 13)) (fr 2) H) H) ⟨fun v108 H =>
 @opi _ (lift (afieldAddrR (some 1) (fr 9)) H) ⟨fun v111 H =>
 @opi _ (lift (aloadR (some none) v111 H) H) ⟨fun v112 H =>
 @opi _ (callP false s4 [[none, none, none, none, none, none, none, none, none, none, none, none, none], [none], [none], [none], [none]] [v108, (fr 15), (fr 16), (.bool false), v112] H) ⟨fun v113 H =>
 @opi _ (liftS (astoreR (some 13) (fr 12) v113 H)) ⟨fun _ H =>
 some (AFr.al [(2, fr 2), (4, fr 4), (8, fr 8), (12, fr 12), (13, fr 13)], H)⟩⟩⟩⟩⟩)
@[simp] def r25 (fr : AFr) (H : AHeap) : ARes :=
 areg (@opi _ (lift (abinR .x .eql (fr 61) (.int .i64 8)) H) ⟨fun v115 H =>
 some (AFr.al [(1, fr 1), (2, fr 2), (4, fr 4), (8, fr 8), (9, fr 9), (11, fr 11), (12, fr 12), (13, fr 13), (14, fr 14), (15, fr 15), (16, fr 16), (61, fr 61), (114, v115)], H)⟩)
@[simp] def r26 (s3 s4 : SpecP) (fr : AFr) (H : AHeap) : ARes :=
 areg (@opi _ (lift (aloadR (some (some 13)) (fr 2) H) H) ⟨fun v116 H1 =>
 @opi _ (lift (some (fr 15)) H1) ⟨fun v117 H2 =>
 @opi _ (lift (some (fr 16)) H2) ⟨fun v118 H3 =>
 @opi _ (callP false s3 [[none]] [v118] H3) ⟨fun v119 H4 =>
 @opi _ (lift (afieldAddrR (some 1) (fr 9)) H4) ⟨fun v120 H5 =>
 @opi _ (lift (aloadR (some none) v120 H5) H5) ⟨fun v121 H6 =>
 @opi _ (callP false s4 [[none, none, none, none, none, none, none, none, none, none, none, none, none], [none], [none], [none], [none]] [v116, v117, v119, (.bool true), v121] H6) ⟨fun v122 H7 =>
 @opi _ (liftS (astoreR (some 13) (fr 12) v122 H7)) ⟨fun _ H8 =>
 withChk [aloadR (some (some 13)) (fr 2) H3 = aloadR (some (some 13)) (fr 2) H4, aloadR (some none) v120 H3 = aloadR (some none) v120 H4] (some (AFr.al [(2, fr 2), (4, fr 4), (8, fr 8), (12, fr 12), (13, fr 13)], H8))⟩⟩⟩⟩⟩⟩⟩⟩)
@[simp] def r27 (fr : AFr) (H : AHeap) : ARes :=
 areg (@opi _ (lift (abinR .x .eql (fr 61) (.int .i64 9)) H) ⟨fun v124 H =>
 some (AFr.al [(1, fr 1), (2, fr 2), (4, fr 4), (8, fr 8), (9, fr 9), (11, fr 11), (12, fr 12), (13, fr 13), (14, fr 14), (15, fr 15), (16, fr 16), (61, fr 61), (123, v124)], H)⟩)
@[simp] def r28 (s4 : SpecP) (fr : AFr) (H : AHeap) : ARes :=
 areg (@opi _ (lift (aloadR (some (some 13)) (fr 2) H) H) ⟨fun v125 H =>
 @opi _ (lift (afieldAddrR (some 1) (fr 9)) H) ⟨fun v128 H =>
 @opi _ (lift (aloadR (some none) v128 H) H) ⟨fun v129 H =>
 @opi _ (callP false s4 [[none, none, none, none, none, none, none, none, none, none, none, none, none], [none], [none], [none], [none]] [v125, (fr 15), (fr 11), (.bool false), v129] H) ⟨fun v130 H =>
 @opi _ (liftS (astoreR (some 13) (fr 12) v130 H)) ⟨fun _ H =>
 some (AFr.al [(2, fr 2), (4, fr 4), (8, fr 8), (12, fr 12), (13, fr 13)], H)⟩⟩⟩⟩⟩)
@[simp] def r29 (fr : AFr) (H : AHeap) : ARes :=
 areg (@opi _ (lift (abinR .x .eql (fr 61) (.int .i64 10)) H) ⟨fun v132 H =>
 some (AFr.al [(1, fr 1), (2, fr 2), (4, fr 4), (8, fr 8), (9, fr 9), (11, fr 11), (12, fr 12), (13, fr 13), (14, fr 14), (15, fr 15), (16, fr 16), (61, fr 61), (131, v132)], H)⟩)
@[simp] def r30 (s3 s4 : SpecP) (fr : AFr) (H : AHeap) : ARes :=
 areg (@opi _ (lift (aloadR (some (some 13)) (fr 2) H) H) ⟨fun v133 H1 =>
 @opi _ (lift (some (fr 15)) H1) ⟨fun v134 H2 =>
 @opi _ (lift (some (fr 11)) H2) ⟨fun v135 H3 =>
 @opi _ (callP false s3 [[none]] [v135] H3) ⟨fun v136 H4 =>
 @opi _ (lift (afieldAddrR (some 1) (fr 9)) H4) ⟨fun v137 H5 =>
 @opi _ (lift (aloadR (some none) v137 H5) H5) ⟨fun v138 H6 =>
 @opi _ (callP false s4 [[none, none, none, none, none, none, none, none, none, none, none, none, none], [none], [none], [none], [none]] [v133, v134, v136, (.bool true), v138] H6) ⟨fun v139 H7 =>
 @opi _ (liftS (astoreR (some 13) (fr 12) v139 H7)) ⟨fun _ H8 =>
 withChk [aloadR (some (some 13)) (fr 2) H3 = aloadR (some (some 13)) (fr 2) H4, aloadR (some none) v137 H3 = aloadR (some none) v137 H4] (some (AFr.al [(2, fr 2), (4, fr 4), (8, fr 8), (12, fr 12), (13, fr 13)], H8))⟩⟩⟩⟩⟩⟩⟩⟩)
@[simp] def r31 (fr : AFr) (H : AHeap) : ARes :=
 areg (@opi _ (lift (abinR .x .eql (fr 61) (.int .i64 11)) H) ⟨fun v141 H =>
 some (AFr.al [(1, fr 1), (2, fr 2), (4, fr 4), (8, fr 8), (9, fr 9), (11, fr 11), (12, fr 12), (13, fr 13), (14, fr 14), (15, fr 15), (16, fr 16), (61, fr 61), (140, v141)], H)⟩)
@[simp] def r32 (s6 : SpecP) (fr : AFr) (H : AHeap) : ARes :=
 areg (@opi _ (lift (aloadR (some (some 13)) (fr 2) H) H) ⟨fun v142 H =>
 @opi _ (lift (afieldAddrR (some 4) (fr 9)) H) ⟨fun v143 H =>
 @opi _ (lift (aloadR (some none) v143 H) H) ⟨fun v144 H =>
 @opi _ (lift (afieldAddrR (some 1) (fr 9)) H) ⟨fun v145 H =>
 @opi _ (lift (aloadR (some none) v145 H) H) ⟨fun v146 H =>
 @opi _ (callP false s6 [[none, none, none, none, none, none, none, none, none, none, none, none, none], [none], [none], [none], [none]] [v142, v144, v146, (fr 14), (fr 16)] H) ⟨fun v149 H =>
 @opi _ (liftS (astoreR (some 13) (fr 12) v149 H)) ⟨fun _ H =>
 some (AFr.al [(2, fr 2), (4, fr 4), (8, fr 8), (12, fr 12), (13, fr 13)], H)⟩⟩⟩⟩⟩⟩⟩)
@[simp] def r33 (fr : AFr) (H : AHeap) : ARes :=
 areg (@opi _ (lift (abinR .x .eql (fr 61) (.int .i64 12)) H) ⟨fun v151 H =>
 some (AFr.al [(1, fr 1), (2, fr 2), (4, fr 4), (8, fr 8), (9, fr 9), (11, fr 11), (12, fr 12), (13, fr 13), (14, fr 14), (15, fr 15), (16, fr 16), (61, fr 61), (150, v151)], H)⟩)
@[simp] def r34 (s7 : SpecM) (fr : AFr) (H : AHeap) : ARes :=
 areg (@opi _ (lift (afieldAddrR (some 1) (fr 9)) H) ⟨fun v153 H1 =>
 @opi _ (lift (aloadR (some none) v153 H1) H1) ⟨fun v154 H2 =>
 @opi _ (lift (some (fr 1)) H2) ⟨fun v155 H3 =>
 @opi _ (lift (some (fr 15)) H3) ⟨fun v156 H4 =>
 @opi _ (lift (some (fr 11)) H4) ⟨fun v157 H5 =>
 @opi _ (lift (abinR .x .mul (W32 4#32) v157) H5) ⟨fun v158 H6 =>
 @opi _ (lift (abinR .x .add v156 v158) H6) ⟨fun v159 H7 =>
 @opi _ (san H7 (callM [false, false] s7 [[none], [none]] [v155, v159] H7)) ⟨fun v160 H8 =>
 @opi _ (lift (some v160) H8) ⟨fun v152 H9 =>
 @opi _ (lift (aextract v152 0) H9) ⟨fun v161 H10 =>
 @opi _ (lift (aextract v152 1) H10) ⟨fun v162 H11 =>
 @opi _ (lift (afieldAddrR (some 0) (fr 12)) H11) ⟨fun v163 H12 =>
 @opi _ (lift (aindexAddrR (.arr 8 1) v163 v154) H12) ⟨fun v164 H13 =>
 @opi _ (liftS (astoreR (some 1) v164 v161 H13)) ⟨fun _ H14 =>
 @opi _ (lift (some v162) H14) ⟨fun v8 H15 =>
 withChk [aloadR (some none) v153 H7 = aloadR (some none) v153 H8] (some (AFr.al [(2, fr 2), (4, fr 4), (8, v8), (12, fr 12), (13, fr 13)], H15))⟩⟩⟩⟩⟩⟩⟩⟩⟩⟩⟩⟩⟩⟩⟩)
@[simp] def r35 (fr : AFr) (H : AHeap) : ARes :=
 areg (@opi _ (lift (abinR .x .eql (fr 61) (.int .i64 13)) H) ⟨fun v166 H =>
 some (AFr.al [(1, fr 1), (2, fr 2), (4, fr 4), (8, fr 8), (9, fr 9), (11, fr 11), (12, fr 12), (13, fr 13), (14, fr 14), (15, fr 15), (16, fr 16), (61, fr 61), (165, v166)], H)⟩)
@[simp] def r36 (s8 : SpecM) (fr : AFr) (H : AHeap) : ARes :=
 areg (@opi _ (lift (abinR .x .mul (W32 4#32) (fr 11)) H) ⟨fun v170 H =>
 @opi _ (lift (abinR .x .add (fr 15) v170) H) ⟨fun v171 H =>
 @opi _ (callM [false, false, false] s8 [[none], [none], [none]] [(fr 1), v171, (fr 14)] H) ⟨fun v173 H =>
 some (AFr.al [(2, fr 2), (4, fr 4), (8, v173), (12, fr 12), (13, fr 13)], H)⟩⟩⟩)
@[simp] def r37 (fr : AFr) (H : AHeap) : ARes :=
 areg (@opi _ (lift (abinR .x .eql (fr 61) (.int .i64 14)) H) ⟨fun v175 H =>
 some (AFr.al [(1, fr 1), (2, fr 2), (4, fr 4), (8, fr 8), (9, fr 9), (11, fr 11), (12, fr 12), (13, fr 13), (14, fr 14), (15, fr 15), (16, fr 16), (61, fr 61), (174, v175)], H)⟩)
@[simp] def r38 (s7 : SpecM) (fr : AFr) (H : AHeap) : ARes :=
 areg (@opi _ (lift (afieldAddrR (some 1) (fr 9)) H) ⟨fun v177 H1 =>
 @opi _ (lift (aloadR (some none) v177 H1) H1) ⟨fun v178 H2 =>
 @opi _ (lift (some (fr 1)) H2) ⟨fun v179 H3 =>
 @opi _ (lift (some (fr 15)) H3) ⟨fun v180 H4 =>
 @opi _ (lift (some (fr 16)) H4) ⟨fun v181 H5 =>
 @opi _ (lift (abinR .x .add v180 v181) H5) ⟨fun v182 H6 =>
 @opi _ (san H6 (callM [false, false] s7 [[none], [none]] [v179, v182] H6)) ⟨fun v183 H7 =>
 @opi _ (lift (some v183) H7) ⟨fun v176 H8 =>
 @opi _ (lift (aextract v176 0) H8) ⟨fun v184 H9 =>
 @opi _ (lift (aextract v176 1) H9) ⟨fun v185 H10 =>
 @opi _ (lift (afieldAddrR (some 0) (fr 12)) H10) ⟨fun v186 H11 =>
 @opi _ (lift (aindexAddrR (.arr 8 1) v186 v178) H11) ⟨fun v187 H12 =>
 @opi _ (liftS (astoreR (some 1) v187 v184 H12)) ⟨fun _ H13 =>
 @opi _ (lift (some v185) H13) ⟨fun v8 H14 =>
 withChk [aloadR (some none) v177 H6 = aloadR (some none) v177 H7] (some (AFr.al [(2, fr 2), (4, fr 4), (8, v8), (12, fr 12), (13, fr 13)], H14))⟩⟩⟩⟩⟩⟩⟩⟩⟩⟩⟩⟩⟩⟩)
@[simp] def r39 (fr : AFr) (H : AHeap) : ARes :=
 areg (@opi _ (lift (abinR .x .eql (fr 61) (.int .i64 15)) H) ⟨fun v189 H =>
 some (AFr.al [(1, fr 1), (2, fr 2), (4, fr 4), (8, fr 8), (9, fr 9), (11, fr 11), (12, fr 12), (13, fr 13), (14, fr 14), (15, fr 15), (16, fr 16), (61, fr 61), (188, v189)], H)⟩)
@[simp] def r40 (s8 : SpecM) (fr : AFr) (H : AHeap) : ARes :=
 areg (@opi _ (lift (abinR .x .add (fr 15) (fr 16)) H) ⟨fun v193 H =>
 @opi _ (callM [false, false, false] s8 [[none], [none], [none]] [(fr 1), v193, (fr 14)] H) ⟨fun v195 H =>
 some (AFr.al [(2, fr 2), (4, fr 4), (8, v195), (12, fr 12), (13, fr 13)], H)⟩⟩)
@[simp] def r41 (fr : AFr) (H : AHeap) : ARes :=
 areg (@opi _ (lift (abinR .x .eql (fr 61) (.int .i64 16)) H) ⟨fun v197 H =>
 some (AFr.al [(1, fr 1), (2, fr 2), (4, fr 4), (8, fr 8), (9, fr 9), (11, fr 11), (12, fr 12), (13, fr 13), (61, fr 61), (196, v197)], H)⟩)
@[simp] def r42 (s7 : SpecM) (fr : AFr) (H : AHeap) : ARes :=
 areg (@opi _ (lift (afieldAddrR (some 1) (fr 9)) H) ⟨fun v199 H1 =>
 @opi _ (lift (aloadR (some none) v199 H1) H1) ⟨fun v200 H2 =>
 @opi _ (lift (some (fr 1)) H2) ⟨fun v201 H3 =>
 @opi _ (lift (afieldAddrR (some 8) (fr 2)) H3) ⟨fun v202 H4 =>
 @opi _ (lift (aloadR (some none) v202 H4) H4) ⟨fun v203 H5 =>
 @opi _ (lift (abinR .x .add v203 (W32 4#32)) H5) ⟨fun v204 H6 =>
 @opi _ (lift (abinR .x .quo v204 (W32 4#32)) H6) ⟨fun v205 H7 =>
 @opi _ (lift (abinR .x .mul v205 (W32 4#32)) H7) ⟨fun v206 H8 =>
 @opi _ (lift (some (fr 11)) H8) ⟨fun v207 H9 =>
 @opi _ (lift (abinR .x .mul (W32 4#32) v207) H9) ⟨fun v208 H10 =>
 @opi _ (lift (abinR .x .add v206 v208) H10) ⟨fun v209 H11 =>
 @opi _ (san H11 (callM [false, false] s7 [[none], [none]] [v201, v209] H11)) ⟨fun v210 H12 =>
 @opi _ (lift (some v210) H12) ⟨fun v198 H13 =>
 @opi _ (lift (aextract v198 0) H13) ⟨fun v211 H14 =>
 @opi _ (lift (aextract v198 1) H14) ⟨fun v212 H15 =>
 @opi _ (lift (afieldAddrR (some 0) (fr 12)) H15) ⟨fun v213 H16 =>
 @opi _ (lift (aindexAddrR (.arr 8 1) v213 v200) H16) ⟨fun v214 H17 =>
 @opi _ (liftS (astoreR (some 1) v214 v211 H17)) ⟨fun _ H18 =>
 @opi _ (lift (some v212) H18) ⟨fun v8 H19 =>
 withChk [aloadR (some none) v199 H11 = aloadR (some none) v199 H12] (some (AFr.al [(2, fr 2), (4, fr 4), (8, v8), (12, fr 12), (13, fr 13)], H19))⟩⟩⟩⟩⟩⟩⟩⟩⟩⟩⟩⟩⟩⟩⟩⟩⟩⟩⟩)
@[simp] def r43 (fr : AFr) (H : AHeap) : ARes :=
 areg (@opi _ (lift (abinR .x .eql (fr 61) (.int .i64 17)) H) ⟨fun v216 H =>
 some (AFr.al [(2, fr 2), (4, fr 4), (8, fr 8), (9, fr 9), (11, fr 11), (12, fr 12), (13, fr 13), (61, fr 61), (215, v216)], H)⟩)
@[simp] def r44 (fr : AFr) (H : AHeap) : ARes :=
 areg (@opi _ (lift (afieldAddrR (some 8) (fr 2)) H) ⟨fun v217 H =>
 @opi _ (lift (aloadR (some none) v217 H) H) ⟨fun v218 H =>
 @opi _ (lift (abinR .x .add v218 (W32 4#32)) H) ⟨fun v219 H =>
 @opi _ (lift (abinR .x .add v219 (fr 11)) H) ⟨fun v221 H =>
 @opi _ (lift (abinR .x .add v221 (fr 11)) H) ⟨fun v223 H =>
 some (AFr.al [(2, fr 2), (4, fr 4), (8, fr 8), (12, fr 12), (13, v223)], H)⟩⟩⟩⟩⟩)
@[simp] def r45 (fr : AFr) (H : AHeap) : ARes :=
 areg (@opi _ (lift (abinR .x .eql (fr 61) (.int .i64 18)) H) ⟨fun v225 H =>
 some (AFr.al [(2, fr 2), (4, fr 4), (8, fr 8), (9, fr 9), (11, fr 11), (12, fr 12), (13, fr 13), (61, fr 61), (224, v225)], H)⟩)
@[simp] def r46 (s9 : SpecP) (fr : AFr) (H : AHeap) : ARes :=
 areg (@opi _ (lift (afieldAddrR (some 1) (fr 9)) H) ⟨fun v226 H =>
 @opi _ (lift (aloadR (some none) v226 H) H) ⟨fun v227 H =>
 @opi _ (lift (aloadR (some (some 13)) (fr 2) H) H) ⟨fun v228 H =>
 @opi _ (callP false s9 [[none], [none, none, none, none, none, none, none, none, none, none, none, none, none]] [v227, v228] H) ⟨fun v229 H =>
 some (AFr.al [(2, fr 2), (4, fr 4), (8, fr 8), (11, fr 11), (12, fr 12), (13, fr 13), (229, v229)], H)⟩⟩⟩⟩)
@[simp] def r47 (fr : AFr) (H : AHeap) : ARes :=
 areg (@opi _ (lift (afieldAddrR (some 8) (fr 2)) H) ⟨fun v230 H =>
 @opi _ (lift (aloadR (some none) v230 H) H) ⟨fun v231 H =>
 @opi _ (lift (abinR .x .add v231 (W32 4#32)) H) ⟨fun v232 H =>
 @opi _ (lift (abinR .x .add v232 (fr 11)) H) ⟨fun v234 H =>
 @opi _ (lift (abinR .x .add v234 (fr 11)) H) ⟨fun v236 H =>
 some (AFr.al [(2, fr 2), (4, fr 4), (8, fr 8), (12, fr 12), (13, v236)], H)⟩⟩⟩⟩⟩)
@[simp] def r48 (fr : AFr) (H : AHeap) : ARes :=
 areg (@opi _ (lift (abinR .x .eql (fr 61) (.int .i64 20)) H) ⟨fun v238 H =>
 some (AFr.al [(2, fr 2), (4, fr 4), (8, fr 8), (12, fr 12), (13, fr 13), (237, v238)], H)⟩)
@[simp] def r49 (fr : AFr) (H : AHeap) : ARes :=
 areg (@opi _ (lift (aloadR (some (some 13)) (fr 2) H) H) ⟨fun v239 H =>
 @opi _ (liftS (astoreR (some 13) (fr 4) v239 H)) ⟨fun _ H =>
 some (AFr.al [(4, fr 4), (5, (.bool true)), (6, (.int .i64 0))], H)⟩⟩)
@[simp] def r50 (fr : AFr) (H : AHeap) : ARes :=
 areg (@opi _ (lift (abinR .x .neq (fr 8) (.int .i64 0)) H) ⟨fun v241 H =>
 some (AFr.al [(2, fr 2), (4, fr 4), (8, fr 8), (12, fr 12), (13, fr 13), (241, v241)], H)⟩)
@[simp] def r51 (fr : AFr) (H : AHeap) : ARes :=
 areg (@opi _ (lift (aloadR (some (some 13)) (fr 2) H) H) ⟨fun v242 H =>
 @opi _ (liftS (astoreR (some 13) (fr 4) v242 H)) ⟨fun _ H =>
 some (AFr.al [(4, fr 4), (5, (.bool false)), (6, (fr 8))], H)⟩⟩)
@[simp] def r52 (fr : AFr) (H : AHeap) : ARes :=
 areg (@opi _ (lift (afieldAddrR (some 8) (fr 12)) H) ⟨fun v245 H =>
 @opi _ (liftS (astoreR (some 1) v245 (fr 13) H)) ⟨fun _ H =>
 some (AFr.al [(4, fr 4), (12, fr 12)], H)⟩⟩)
@[simp] def r53 (fr : AFr) (H : AHeap) : ARes :=
 areg (@opi _ (lift (aloadR (some (some 13)) (fr 12) H) H) ⟨fun v246 H =>
 @opi _ (liftS (astoreR (some 13) (fr 4) v246 H)) ⟨fun _ H =>
 some (AFr.al [(4, fr 4), (5, (.bool false)), (6, (.int .i64 0))], H)⟩⟩)
@[simp] def body (s0 : SpecM) (s1 s2 s3 s4 s5 s6 : SpecP) (s7 s8 : SpecM) (s9 : SpecP) (fr : AFr) (H : AHeap) : ARes :=
  @aseqi (r0 fr H) ⟨fun fr H =>
 @aseqi (r1 s0 fr H) ⟨fun fr H =>
 @aseqi (@aseqi (r2 fr H) ⟨fun fr H =>
 @acondi (fr 25)
 ⟨@aseqi (r3 fr H) ⟨fun fr H =>
 some (.ret, fr, H)⟩⟩
 ⟨some (.normal, fr, H)⟩⟩) ⟨fun fr H =>
 @aseqi (r4 s1 fr H) ⟨fun fr H =>
 @aseqi (@aseqi (r5 fr H) ⟨fun fr H =>
 @acondi (fr 34)
 ⟨@aseqi (r6 fr H) ⟨fun fr H =>
 some (.ret, fr, H)⟩⟩
 ⟨some (.normal, fr, H)⟩⟩) ⟨fun fr H =>
 @aseqi (r7 fr H) ⟨fun fr H =>
 @aseqi (r8 fr H) ⟨fun fr H =>
 @aseqi (r9 fr H) ⟨fun fr H =>
 @aseqi (@aseqi (r10 fr H) ⟨fun fr H =>
  aexit 0 (@aseqi (r11 fr H) ⟨fun fr H =>
 @acondi (fr 62)
 ⟨r12 s2 fr H⟩
 ⟨@aseqi (r13 fr H) ⟨fun fr H =>
 @acondi (fr 69)
 ⟨r14 s3 s4 fr H⟩
 ⟨@aseqi (r15 fr H) ⟨fun fr H =>
 @acondi (fr 76)
 ⟨r16 s4 fr H⟩
 ⟨@aseqi (r17 fr H) ⟨fun fr H =>
 @acondi (fr 84)
 ⟨r18 s3 s4 fr H⟩
 ⟨@aseqi (@aseqi (r19 fr H) ⟨fun fr H =>
 @acondi (fr 93)
 ⟨some (.normal, fr, H)⟩
 ⟨@aseqi (r20 fr H) ⟨fun fr H =>
 @acondi (fr 93)
 ⟨some (.normal, fr, H)⟩
 ⟨r21 fr H⟩⟩⟩⟩) ⟨fun fr H =>
 @acondi (fr 93)
 ⟨r22 s5 fr H⟩
 ⟨@aseqi (r23 fr H) ⟨fun fr H =>
 @acondi (fr 106)
 ⟨r24 s4 fr H⟩
 ⟨@aseqi (r25 fr H) ⟨fun fr H =>
 @acondi (fr 114)
 ⟨r26 s3 s4 fr H⟩
 ⟨@aseqi (r27 fr H) ⟨fun fr H =>
 @acondi (fr 123)
 ⟨r28 s4 fr H⟩
 ⟨@aseqi (r29 fr H) ⟨fun fr H =>
 @acondi (fr 131)
 ⟨r30 s3 s4 fr H⟩
 ⟨@aseqi (r31 fr H) ⟨fun fr H =>
 @acondi (fr 140)
 ⟨r32 s6 fr H⟩
 ⟨@aseqi (r33 fr H) ⟨fun fr H =>
 @acondi (fr 150)
 ⟨r34 s7 fr H⟩
 ⟨@aseqi (r35 fr H) ⟨fun fr H =>
 @acondi (fr 165)
 ⟨r36 s8 fr H⟩
 ⟨@aseqi (r37 fr H) ⟨fun fr H =>
 @acondi (fr 174)
 ⟨r38 s7 fr H⟩
 ⟨@aseqi (r39 fr H) ⟨fun fr H =>
 @acondi (fr 188)
 ⟨r40 s8 fr H⟩
 ⟨@aseqi (r41 fr H) ⟨fun fr H =>
 @acondi (fr 196)
 ⟨r42 s7 fr H⟩
 ⟨@aseqi (r43 fr H) ⟨fun fr H =>
 @acondi (fr 215)
 ⟨r44 fr H⟩
 ⟨@aseqi (r45 fr H) ⟨fun fr H =>
 @acondi (fr 224)
 ⟨@aseqi (r46 s9 fr H) ⟨fun fr H =>
 @acondi (fr 229)
 ⟨r47 fr H⟩
 ⟨some (.normal, fr, H)⟩⟩⟩
 ⟨@aseqi (r48 fr H) ⟨fun fr H =>
 @acondi (fr 237)
 ⟨@aseqi (r49 fr H) ⟨fun fr H =>
 some (.ret, fr, H)⟩⟩
 ⟨some (.normal, fr, H)⟩⟩⟩⟩⟩⟩⟩⟩⟩⟩⟩⟩⟩⟩⟩⟩⟩⟩⟩⟩⟩⟩⟩⟩⟩⟩⟩⟩⟩⟩⟩⟩⟩⟩⟩⟩)⟩) ⟨fun fr H =>
 @aseqi (@aseqi (r50 fr H) ⟨fun fr H =>
 @acondi (fr 241)
 ⟨@aseqi (r51 fr H) ⟨fun fr H =>
 some (.ret, fr, H)⟩⟩
 ⟨some (.normal, fr, H)⟩⟩) ⟨fun fr H =>
 @aseqi (r52 fr H) ⟨fun fr H =>
 @aseqi (r53 fr H) ⟨fun fr H =>
 some (.ret, fr, H)⟩⟩⟩⟩⟩⟩⟩⟩⟩⟩⟩⟩
@[simp] def res (fr : AFr) (H : AHeap) : Option (List AV) := res2 (aloadR (some (some 13)) (fr 4) H) (res2 (some (fr 5)) (res2 (some (fr 6)) (some [])))
end ref06_Step
def ref06_Step (a0 a1 : AV) (H : AHeap) : Option (AV × AHeap) := forget H (afinR ref06_Step.res (ref06_Step.body ref05_Mem_Fetch.spec ref02_Take.spec ref06_put.spec ref06_not.spec ref06_sum.spec ref06_shift.spec ref06_alu.spec ref05_Mem_Load.spec ref05_Mem_Store.spec ref06_Holds.spec (args0 [a0, a1]) H))
def ref06_Step.spec : List AV → AHeap → Option (AV × AHeap)
  | [a0, a1], H => ref06_Step a0 a1 H
  | _, _ => none
end
end Go.Abs
