/-
  The functions, as they are over abstract values. Printed by gen.py.
-/
import Derived.Test.YtncablokgkejjaaLoF
import Derived.Test.YtncablokgkejjaaLeF
import Derived.Test.YtncablokgkejjaaCoF
set_option linter.unusedVariables false
namespace Go.Abs
noncomputable section
namespace run_goes
def C (s0 s1 s2 s3 s4 s5 : SpecM) : Tab := ((((((Tab.none.add 15 (.ref [true, false, true] s0)).add 25 (.ref [false, false, false] s1)).add 28 (.ref [true, false] s2)).add 17 (.ref [true, false] s3)).add 27 (.ref [false] s4)).add 20 (.ref [false] s5))
@[simp] def r0 (fr : AFr) (H : AHeap) : ARes :=
 areg (@opi _ (aallocR T.ty_api_Outcome (some (.agg [(.int .i64 0), (.int .i64 0), (.int .i64 0), .nils, .nils])) H) ⟨fun v10 H =>
 some (AFr.al [(0, fr 0), (1, fr 1), (2, fr 2), (3, fr 3), (4, fr 4), (10, v10)], H)⟩)
@[simp] def r1 (s0 : SpecM) (fr : AFr) (H : AHeap) : ARes :=
 areg (@opi _ (lift (alenR .sl (fr 1)) H) ⟨fun v21 H =>
 @opi _ (callM [true, false, true] s0 [[some 1], [none], [some 1]] [(fr 0), v21, (fr 2)] H) ⟨fun v23 H =>
 some (AFr.al [(1, fr 1), (3, fr 3), (4, fr 4), (10, fr 10), (11, v23)], H)⟩⟩)
@[simp] def r2 (fr : AFr) (H : AHeap) : ARes :=
 areg (@opi _ (lift (alenR .sl (fr 1)) H) ⟨fun v25 H =>
 some (AFr.al [(3, fr 3), (4, fr 4), (10, fr 10), (11, fr 11), (24, (fr 1)), (25, v25), (26, (.int .i64 0))], H)⟩)
@[simp] def r3 (fr : AFr) (H : AHeap) : ARes :=
 areg (@opi _ (lift (abinR .x .lss (fr 26) (fr 25)) H) ⟨fun v27 H =>
 some (AFr.al [(3, fr 3), (4, fr 4), (10, fr 10), (11, fr 11), (24, fr 24), (25, fr 25), (26, fr 26), (27, v27)], H)⟩)
@[simp] def r4 (fr : AFr) (H : AHeap) : ARes :=
 areg (@opi _ (lift (aindexAddrR (.sl 1) (fr 24) (fr 26)) H) ⟨fun v29 H =>
 @opi _ (lift (aloadR (some none) v29 H) H) ⟨fun v30 H =>
 some (AFr.al [(3, fr 3), (4, fr 4), (10, fr 10), (11, fr 11), (12, (fr 26)), (13, v30), (24, fr 24), (25, fr 25), (26, fr 26)], H)⟩⟩)
@[simp] def r5 (s1 : SpecM) (fr : AFr) (H : AHeap) : ARes :=
 areg (@opi _ (callM [false, false, false] s1 [[none], [none], [none]] [(fr 11), (fr 12), (fr 13)] H) ⟨fun v34 H =>
 some (AFr.al [(3, fr 3), (4, fr 4), (10, fr 10), (11, fr 11), (24, fr 24), (25, fr 25), (26, fr 26)], H)⟩)
@[simp] def r6 (fr : AFr) (H : AHeap) : ARes :=
 areg (@opi _ (lift (abinR .x .add (fr 26) (.int .i64 1)) H) ⟨fun v35 H =>
 some (AFr.al [(3, fr 3), (4, fr 4), (10, fr 10), (11, fr 11), (24, fr 24), (25, fr 25), (26, v35)], H)⟩)
@[simp] def r7 (fr : AFr) (H : AHeap) : ARes :=
 areg (@opi _ (lift (amax (fr 3) (.int .i64 0)) H) ⟨fun v37 H =>
 @opi _ (lift (amin v37 (.int .i64 1048576)) H) ⟨fun v38 H =>
 some (AFr.al [(3, v38), (4, fr 4), (10, fr 10), (11, fr 11)], H)⟩⟩)
@[simp] def r8 (fr : AFr) (H : AHeap) : ARes :=
 areg (@opi _ (lift (abuildR (.str [(.int .i64 0), (.int .i64 0), (.int .i64 0), .nils, .nils] [(0, 1), (1, 1), (2, 1), (3, 1), (4, 1)]) [(2, (.int .i64 80))]) H) ⟨fun v39 H =>
 @opi _ (aallocR T.ty_api_Outcome (some (.agg [(.int .i64 0), (.int .i64 0), (.int .i64 0), .nils, .nils])) H) ⟨fun v14 H =>
 @opi _ (liftS (astoreR (some 5) v14 v39 H)) ⟨fun _ H =>
 some (AFr.al [(3, fr 3), (4, fr 4), (10, fr 10), (11, fr 11), (14, v14)], H)⟩⟩⟩)
@[simp] def r9 (fr : AFr) (H : AHeap) : ARes :=
 areg (@opi _ (aallocR T.ty_api_State (some (.agg [(W32 0#32), (W32 0#32), (W32 0#32), (W32 0#32), (W32 0#32), (W32 0#32), (W32 0#32), (W32 0#32), (W32 0#32), (.bool false), (.bool false), (.bool false), (.bool false)])) H) ⟨fun v15 H =>
 some (AFr.al [(3, fr 3), (4, fr 4), (10, fr 10), (11, fr 11), (14, fr 14), (15, v15)], H)⟩)
@[simp] def r10 (fr : AFr) (H : AHeap) : ARes :=
 areg (@opi _ (lift (afieldAddrR (some 0) (fr 14)) H) ⟨fun v40 H =>
 @opi _ (lift (aloadR (some none) v40 H) H) ⟨fun v41 H =>
 @opi _ (lift (abinR .x .lss v41 (fr 3)) H) ⟨fun v43 H =>
 some (AFr.al [(3, fr 3), (4, fr 4), (10, fr 10), (11, fr 11), (14, fr 14), (15, fr 15), (43, v43)], H)⟩⟩⟩)
@[simp] def r11 (fr : AFr) (H : AHeap) : ARes :=
 areg (@opi _ (aallocR T.ty_api_Leak (some (.agg [(W32 0#32), (W16 0#16), (W32 0#32), (W32 0#32), (W32 0#32), (W32 0#32), (W32 0#32), (W32 0#32), (.bool false), (.bool false)])) H) ⟨fun v16 H =>
 some (AFr.al [(3, fr 3), (4, fr 4), (10, fr 10), (11, fr 11), (14, fr 14), (15, fr 15), (16, v16)], H)⟩)
@[simp] def r12 (fr : AFr) (H : AHeap) : ARes :=
 areg (some (AFr.al [(3, fr 3), (4, fr 4), (10, fr 10), (11, fr 11), (14, fr 14), (15, fr 15), (16, fr 16)], H))
@[simp] def r13 (fr : AFr) (H : AHeap) : ARes :=
 areg (some (AFr.al [(3, fr 3), (4, fr 4), (10, fr 10), (11, fr 11), (14, fr 14), (15, fr 15), (16, fr 16)], H))
@[simp] def r14 (fr : AFr) (H : AHeap) : ARes :=
 areg (some (AFr.al [(3, fr 3), (4, fr 4), (10, fr 10), (11, fr 11), (14, fr 14), (15, fr 15), (16, fr 16), (44, (fr 4))], H))
@[simp] def r15 (s2 : SpecM) (fr : AFr) (H : AHeap) : ARes :=
 areg (@opi _ (lift (aloadR (some (some 13)) (fr 15) H) H) ⟨fun v46 H =>
 @opi _ (callM [true, false] s2 [[none, none, none, none, none, none, none, none, none, none, none, none, none], [none]] [v46, (fr 11)] H) ⟨fun v48 H =>
 @opi _ (lift (aextract v48 0) H) ⟨fun v49 H =>
 @opi _ (lift (aextract v48 1) H) ⟨fun v50 H =>
 @opi _ (lift (aextract v48 2) H) ⟨fun v51 H =>
 @opi _ (lift (aextract v48 3) H) ⟨fun v52 H =>
 @opi _ (liftS (astoreR (some 13) (fr 15) v49 H)) ⟨fun _ H =>
 @opi _ (liftS (astoreR (some 10) (fr 16) v50 H)) ⟨fun _ H =>
 some (AFr.al [(3, fr 3), (4, fr 4), (10, fr 10), (11, fr 11), (14, fr 14), (15, fr 15), (16, fr 16), (17, v51), (18, v52)], H)⟩⟩⟩⟩⟩⟩⟩⟩)
@[simp] def r16 (s3 : SpecM) (fr : AFr) (H : AHeap) : ARes :=
 areg (@opi _ (lift (aloadR (some (some 13)) (fr 15) H) H) ⟨fun v54 H =>
 @opi _ (callM [true, false] s3 [[none, none, none, none, none, none, none, none, none, none, none, none, none], [none]] [v54, (fr 11)] H) ⟨fun v56 H =>
 @opi _ (lift (aextract v56 0) H) ⟨fun v57 H =>
 @opi _ (lift (aextract v56 1) H) ⟨fun v58 H =>
 @opi _ (lift (aextract v56 2) H) ⟨fun v59 H =>
 @opi _ (liftS (astoreR (some 13) (fr 15) v57 H)) ⟨fun _ H =>
 some (AFr.al [(3, fr 3), (4, fr 4), (10, fr 10), (11, fr 11), (14, fr 14), (15, fr 15), (16, fr 16), (17, v58), (18, v59)], H)⟩⟩⟩⟩⟩⟩)
@[simp] def r17 (fr : AFr) (H : AHeap) : ARes :=
 areg (@opi _ (lift (abinR .x .neq (fr 18) (.int .i64 0)) H) ⟨fun v61 H =>
 some (AFr.al [(3, fr 3), (4, fr 4), (10, fr 10), (11, fr 11), (14, fr 14), (15, fr 15), (16, fr 16), (17, fr 17), (18, fr 18), (61, v61)], H)⟩)
@[simp] def r18 (fr : AFr) (H : AHeap) : ARes :=
 areg (@opi _ (lift (afieldAddrR (some 2) (fr 14)) H) ⟨fun v63 H =>
 @opi _ (liftS (astoreR (some 1) v63 (fr 18) H)) ⟨fun _ H =>
 some (AFr.al [(10, fr 10), (11, fr 11), (14, fr 14)], H)⟩⟩)
@[simp] def r19 (fr : AFr) (H : AHeap) : ARes :=
 areg (@opi _ (lift (afieldAddrR (some 0) (fr 14)) H) ⟨fun v64 H =>
 @opi _ (lift (aloadR (some none) v64 H) H) ⟨fun v65 H =>
 @opi _ (lift (abinR .x .add v65 (.int .i64 1)) H) ⟨fun v66 H =>
 @opi _ (lift (afieldAddrR (some 0) (fr 14)) H) ⟨fun v67 H =>
 @opi _ (liftS (astoreR (some 1) v67 v66 H)) ⟨fun _ H =>
 some (AFr.al [(3, fr 3), (4, fr 4), (10, fr 10), (11, fr 11), (14, fr 14), (15, fr 15), (16, fr 16), (17, fr 17)], H)⟩⟩⟩⟩⟩)
@[simp] def r20 (fr : AFr) (H : AHeap) : ARes :=
 areg (some (AFr.al [(3, fr 3), (4, fr 4), (10, fr 10), (11, fr 11), (14, fr 14), (15, fr 15), (16, fr 16), (17, fr 17), (68, (fr 4))], H))
@[simp] def r21 (fr : AFr) (H : AHeap) : ARes :=
 areg (@opi _ (lift (afieldAddrR (some 4) (fr 14)) H) ⟨fun v69 H =>
 @opi _ (lift (aloadR (some none) v69 H) H) ⟨fun v70 H =>
 @opi _ (lift (aloadR (some (some 10)) (fr 16) H) H) ⟨fun v71 H =>
 @opi _ (abuildSliceR (some ⟨T.ty_api_Leak, 10, 36, [(W32 0#32), (W16 0#16), (W32 0#32), (W32 0#32), (W32 0#32), (W32 0#32), (W32 0#32), (W32 0#32), (.bool false), (.bool false)]⟩) 1 [(0, v71)] H) ⟨fun v72 H =>
 @opi _ (aappendR (some ⟨T.ty_api_Leak, 10, 36, [(W32 0#32), (W16 0#16), (W32 0#32), (W32 0#32), (W32 0#32), (W32 0#32), (W32 0#32), (W32 0#32), (.bool false), (.bool false)]⟩) v70 v72 H) ⟨fun v73 H =>
 @opi _ (lift (afieldAddrR (some 4) (fr 14)) H) ⟨fun v74 H =>
 @opi _ (liftS (astoreR (some 1) v74 v73 H)) ⟨fun _ H =>
 some (AFr.al [(3, fr 3), (4, fr 4), (10, fr 10), (11, fr 11), (14, fr 14), (15, fr 15), (17, fr 17)], H)⟩⟩⟩⟩⟩⟩⟩)
@[simp] def r22 (fr : AFr) (H : AHeap) : ARes :=
 areg (some (AFr.al [(3, fr 3), (4, fr 4), (10, fr 10), (11, fr 11), (14, fr 14), (15, fr 15), (75, (fr 17))], H))
@[simp] def r23 (fr : AFr) (H : AHeap) : ARes :=
 areg (@opi _ (lift (afieldAddrR (some 2) (fr 14)) H) ⟨fun v76 H =>
 @opi _ (liftS (astoreR (some 1) v76 (.int .i64 0) H)) ⟨fun _ H =>
 some (AFr.al [(10, fr 10), (11, fr 11), (14, fr 14)], H)⟩⟩)
@[simp] def r24 (s4 s5 : SpecM) (fr : AFr) (H : AHeap) : ARes :=
 areg (@opi _ (callM [false] s4 [[none]] [(fr 11)] H) ⟨fun v78 H =>
 @opi _ (callM [false] s5 [[none]] [(fr 11)] H) ⟨fun v80 H =>
 @opi _ (lift (afieldAddrR (some 1) (fr 14)) H) ⟨fun v81 H =>
 @opi _ (liftS (astoreR (some 1) v81 v78 H)) ⟨fun _ H =>
 @opi _ (lift (afieldAddrR (some 3) (fr 14)) H) ⟨fun v82 H =>
 @opi _ (liftS (astoreR (some 1) v82 v80 H)) ⟨fun _ H =>
 some (AFr.al [(10, fr 10), (14, fr 14)], H)⟩⟩⟩⟩⟩⟩)
@[simp] def r25 (fr : AFr) (H : AHeap) : ARes :=
 areg (@opi _ (lift (aloadR (some (some 5)) (fr 14) H) H) ⟨fun v83 H =>
 @opi _ (liftS (astoreR (some 5) (fr 10) v83 H)) ⟨fun _ H =>
 some (AFr.al [(10, fr 10)], H)⟩⟩)
def l0 (s0 s1 s2 s3 s4 s5 : SpecM) (fr : AFr) (H : AHeap) : ARes :=
  @aseqi (r3 fr H) ⟨fun fr H =>
 @aseqi (@acondi (fr 27)
 ⟨some (.normal, fr, H)⟩
 ⟨some (.exit 0, fr, H)⟩) ⟨fun fr H =>
 @aseqi (aexit 1 (@aseqi (r4 fr H) ⟨fun fr H =>
 r5 s1 fr H⟩)) ⟨fun fr H =>
 r6 fr H⟩⟩⟩
def l1 (s0 s1 s2 s3 s4 s5 : SpecM) (fr : AFr) (H : AHeap) : ARes :=
  @aseqi (@aseqi (r10 fr H) ⟨fun fr H =>
 @acondi (fr 43)
 ⟨some (.normal, fr, H)⟩
 ⟨some (.exit 2, fr, H)⟩⟩) ⟨fun fr H =>
  aexit 3 (@aseqi (r11 fr H) ⟨fun fr H =>
 @aseqi (r12 fr H) ⟨fun fr H =>
 @aseqi (r13 fr H) ⟨fun fr H =>
 @aseqi (@aseqi (r14 fr H) ⟨fun fr H =>
 @acondi (fr 44)
 ⟨r15 s2 fr H⟩
 ⟨r16 s3 fr H⟩⟩) ⟨fun fr H =>
 @aseqi (@aseqi (r17 fr H) ⟨fun fr H =>
 @acondi (fr 61)
 ⟨@aseqi (r18 fr H) ⟨fun fr H =>
 some (.exit 2, fr, H)⟩⟩
 ⟨some (.normal, fr, H)⟩⟩) ⟨fun fr H =>
 @aseqi (r19 fr H) ⟨fun fr H =>
 @aseqi (@aseqi (r20 fr H) ⟨fun fr H =>
 @acondi (fr 68)
 ⟨r21 fr H⟩
 ⟨some (.normal, fr, H)⟩⟩) ⟨fun fr H =>
 @aseqi (r22 fr H) ⟨fun fr H =>
 @acondi (fr 75)
 ⟨@aseqi (r23 fr H) ⟨fun fr H =>
 some (.exit 2, fr, H)⟩⟩
 ⟨some (.normal, fr, H)⟩⟩⟩⟩⟩⟩⟩⟩⟩)⟩
@[simp] def body (s0 s1 s2 s3 s4 s5 : SpecM) (fr : AFr) (H : AHeap) : ARes :=
  @aseqi (r0 fr H) ⟨fun fr H =>
 @aseqi (r1 s0 fr H) ⟨fun fr H =>
 @aseqi (@aseqi (r2 fr H) ⟨fun fr H =>
  aexit 0 (aloop (l0 s0 s1 s2 s3 s4 s5) fr H)⟩) ⟨fun fr H =>
 @aseqi (r7 fr H) ⟨fun fr H =>
 @aseqi (r8 fr H) ⟨fun fr H =>
 @aseqi (r9 fr H) ⟨fun fr H =>
 @aseqi (aexit 2 (aloop (l1 s0 s1 s2 s3 s4 s5) fr H)) ⟨fun fr H =>
 @aseqi (r24 s4 s5 fr H) ⟨fun fr H =>
 @aseqi (r25 fr H) ⟨fun fr H =>
 some (.ret, fr, H)⟩⟩⟩⟩⟩⟩⟩⟩⟩
@[simp] def res (fr : AFr) (H : AHeap) : Option (List AV) := res2 (aloadR (some (some 5)) (fr 10) H) (some [])
end run_goes
def run_goes (a0 a1 a2 a3 a4 : AV) : Option AV := closeUpR (some [[none, none, none, some 1, some 10]]) (afinR run_goes.res (run_goes.body mem_New.spec mem_Mem_Set.spec leak_Step.spec core_Step.spec mem_Mem_Drawn.spec mem_Mem_Words.spec (args0 [a0, a1, a2, a3, a4]) AHeap.empty))
def run_goes.spec : List AV → Option AV
  | [a0, a1, a2, a3, a4] => run_goes a0 a1 a2 a3 a4
  | _ => none
namespace run_Exec
def C (s0 : SpecP) : Tab := (Tab.none.add 72 (.pure false s0))
@[simp] def r0 (fr : AFr) (H : AHeap) : ARes :=
 areg (@opi _ (aallocR T.ty_api_Outcome (some (.agg [(.int .i64 0), (.int .i64 0), (.int .i64 0), .nils, .nils])) H) ⟨fun v8 H =>
 some (AFr.al [(0, fr 0), (1, fr 1), (2, fr 2), (3, fr 3), (8, v8)], H)⟩)
@[simp] def r1 (s0 : SpecP) (fr : AFr) (H : AHeap) : ARes :=
 areg (@opi _ (callP false s0 [[some 1], [some 1], [some 1], [none], [none]] [(fr 0), (fr 1), (fr 2), (fr 3), (.bool true)] H) ⟨fun v13 H =>
 @opi _ (liftS (astoreR (some 5) (fr 8) v13 H)) ⟨fun _ H =>
 some (AFr.al [(8, fr 8)], H)⟩⟩)
@[simp] def body (s0 : SpecP) (fr : AFr) (H : AHeap) : ARes :=
  @aseqi (r0 fr H) ⟨fun fr H =>
 @aseqi (r1 s0 fr H) ⟨fun fr H =>
 some (.ret, fr, H)⟩⟩
@[simp] def res (fr : AFr) (H : AHeap) : Option (List AV) := res2 (aloadR (some (some 5)) (fr 8) H) (some [])
end run_Exec
def run_Exec (a0 a1 a2 a3 : AV) : Option AV := closeUpR (some [[none, none, none, some 1, some 10]]) (afinR run_Exec.res (run_Exec.body run_goes.spec (args0 [a0, a1, a2, a3]) AHeap.empty))
def run_Exec.spec : List AV → Option AV
  | [a0, a1, a2, a3] => run_Exec a0 a1 a2 a3
  | _ => none
namespace run_Quick
@[simp] def r0 (fr : AFr) (H : AHeap) : ARes :=
 areg (@opi _ (aallocR T.ty_api_Outcome (some (.agg [(.int .i64 0), (.int .i64 0), (.int .i64 0), .nils, .nils])) H) ⟨fun v8 H =>
 some (AFr.al [(0, fr 0), (1, fr 1), (2, fr 2), (3, fr 3), (8, v8)], H)⟩)
@[simp] def r1 (s0 : SpecP) (fr : AFr) (H : AHeap) : ARes :=
 areg (@opi _ (callP false s0 [[some 1], [some 1], [some 1], [none], [none]] [(fr 0), (fr 1), (fr 2), (fr 3), (.bool false)] H) ⟨fun v13 H =>
 @opi _ (liftS (astoreR (some 5) (fr 8) v13 H)) ⟨fun _ H =>
 some (AFr.al [(8, fr 8)], H)⟩⟩)
@[simp] def body (s0 : SpecP) (fr : AFr) (H : AHeap) : ARes :=
  @aseqi (r0 fr H) ⟨fun fr H =>
 @aseqi (r1 s0 fr H) ⟨fun fr H =>
 some (.ret, fr, H)⟩⟩
@[simp] def res (fr : AFr) (H : AHeap) : Option (List AV) := res2 (aloadR (some (some 5)) (fr 8) H) (some [])
end run_Quick
def run_Quick (a0 a1 a2 a3 : AV) : Option AV := closeUpR (some [[none, none, none, some 1, some 10]]) (afinR run_Quick.res (run_Quick.body run_goes.spec (args0 [a0, a1, a2, a3]) AHeap.empty))
def run_Quick.spec : List AV → Option AV
  | [a0, a1, a2, a3] => run_Quick a0 a1 a2 a3
  | _ => none
namespace slices_EqualFunc_bauta_api_Leak
def C (s0 : SpecP) : Tab := (Tab.none.add 31 (.pure false s0))
@[simp] def r0 (fr : AFr) (H : AHeap) : ARes :=
 areg (some (AFr.al [(0, fr 0), (1, fr 1), (2, fr 2)], H))
@[simp] def r1 (fr : AFr) (H : AHeap) : ARes :=
 areg (@opi _ (lift (alenR .sl (fr 0)) H) ⟨fun v11 H =>
 @opi _ (lift (alenR .sl (fr 1)) H) ⟨fun v13 H =>
 @opi _ (lift (abinR .x .neq v11 v13) H) ⟨fun v14 H =>
 some (AFr.al [(0, fr 0), (1, fr 1), (2, fr 2), (14, v14)], H)⟩⟩⟩)
@[simp] def r2 (fr : AFr) (H : AHeap) : ARes :=
 areg (some (AFr.al [(6, (.bool false))], H))
@[simp] def r3 (fr : AFr) (H : AHeap) : ARes :=
 areg (@opi _ (lift (alenR .sl (fr 0)) H) ⟨fun v16 H =>
 some (AFr.al [(1, fr 1), (2, fr 2), (15, (fr 0)), (16, v16), (17, (.int .i64 0))], H)⟩)
@[simp] def r4 (fr : AFr) (H : AHeap) : ARes :=
 areg (@opi _ (lift (abinR .x .lss (fr 17) (fr 16)) H) ⟨fun v18 H =>
 some (AFr.al [(1, fr 1), (2, fr 2), (15, fr 15), (16, fr 16), (17, fr 17), (18, v18)], H)⟩)
@[simp] def r5 (fr : AFr) (H : AHeap) : ARes :=
 areg (@opi _ (lift (aindexAddrR (.sl 10) (fr 15) (fr 17)) H) ⟨fun v20 H =>
 @opi _ (lift (aloadR (some (some 10)) v20 H) H) ⟨fun v21 H =>
 @opi _ (aallocR T.ty_api_Leak (some (.agg [(W32 0#32), (W16 0#16), (W32 0#32), (W32 0#32), (W32 0#32), (W32 0#32), (W32 0#32), (W32 0#32), (.bool false), (.bool false)])) H) ⟨fun v8 H =>
 @opi _ (liftS (astoreR (some 10) v8 v21 H)) ⟨fun _ H =>
 some (AFr.al [(1, fr 1), (2, fr 2), (7, (fr 17)), (8, v8), (15, fr 15), (16, fr 16), (17, fr 17)], H)⟩⟩⟩⟩)
@[simp] def r6 (fr : AFr) (H : AHeap) : ARes :=
 areg (@opi _ (lift (aindexAddrR (.sl 10) (fr 1) (fr 7)) H) ⟨fun v24 H =>
 @opi _ (lift (aloadR (some (some 10)) v24 H) H) ⟨fun v25 H =>
 @opi _ (aallocR T.ty_api_Leak (some (.agg [(W32 0#32), (W16 0#16), (W32 0#32), (W32 0#32), (W32 0#32), (W32 0#32), (W32 0#32), (W32 0#32), (.bool false), (.bool false)])) H) ⟨fun v9 H =>
 @opi _ (liftS (astoreR (some 10) v9 v25 H)) ⟨fun _ H =>
 some (AFr.al [(1, fr 1), (2, fr 2), (8, fr 8), (9, v9), (15, fr 15), (16, fr 16), (17, fr 17)], H)⟩⟩⟩⟩)
@[simp] def r7 (s0 : SpecP) (fr : AFr) (H : AHeap) : ARes :=
 areg (@opi _ (lift (aloadR (some (some 10)) (fr 8) H) H) ⟨fun v27 H =>
 @opi _ (lift (aloadR (some (some 10)) (fr 9) H) H) ⟨fun v28 H =>
 @opi _ (acallClo (C s0) (some [[none, none, none, none, none, none, none, none, none, none], [none, none, none, none, none, none, none, none, none, none]]) (fr 2) [v27, v28] H) ⟨fun v29 H =>
 @opi _ (lift (aun .not v29) H) ⟨fun v30 H =>
 some (AFr.al [(1, fr 1), (2, fr 2), (15, fr 15), (16, fr 16), (17, fr 17), (30, v30)], H)⟩⟩⟩⟩)
@[simp] def r8 (fr : AFr) (H : AHeap) : ARes :=
 areg (some (AFr.al [(6, (.bool false))], H))
@[simp] def r9 (fr : AFr) (H : AHeap) : ARes :=
 areg (@opi _ (lift (abinR .x .add (fr 17) (.int .i64 1)) H) ⟨fun v31 H =>
 some (AFr.al [(1, fr 1), (2, fr 2), (15, fr 15), (16, fr 16), (17, v31)], H)⟩)
@[simp] def r10 (fr : AFr) (H : AHeap) : ARes :=
 areg (some (AFr.al [(6, (.bool true))], H))
def l0 (s0 : SpecP) (fr : AFr) (H : AHeap) : ARes :=
  @aseqi (r4 fr H) ⟨fun fr H =>
 @aseqi (@acondi (fr 18)
 ⟨some (.normal, fr, H)⟩
 ⟨some (.exit 0, fr, H)⟩) ⟨fun fr H =>
 @aseqi (aexit 1 (@aseqi (r5 fr H) ⟨fun fr H =>
 @aseqi (r6 fr H) ⟨fun fr H =>
 @aseqi (r7 s0 fr H) ⟨fun fr H =>
 @acondi (fr 30)
 ⟨@aseqi (r8 fr H) ⟨fun fr H =>
 some (.ret, fr, H)⟩⟩
 ⟨some (.normal, fr, H)⟩⟩⟩⟩)) ⟨fun fr H =>
 r9 fr H⟩⟩⟩
@[simp] def body (s0 : SpecP) (fr : AFr) (H : AHeap) : ARes :=
  @aseqi (r0 fr H) ⟨fun fr H =>
 @aseqi (@aseqi (r1 fr H) ⟨fun fr H =>
 @acondi (fr 14)
 ⟨@aseqi (r2 fr H) ⟨fun fr H =>
 some (.ret, fr, H)⟩⟩
 ⟨some (.normal, fr, H)⟩⟩) ⟨fun fr H =>
 @aseqi (@aseqi (r3 fr H) ⟨fun fr H =>
  aexit 0 (aloop (l0 s0) fr H)⟩) ⟨fun fr H =>
 @aseqi (r10 fr H) ⟨fun fr H =>
 some (.ret, fr, H)⟩⟩⟩⟩
@[simp] def res (fr : AFr) (H : AHeap) : Option (List AV) := res2 (some (fr 6)) (some [])
end slices_EqualFunc_bauta_api_Leak
def slices_EqualFunc_bauta_api_Leak (a0 a1 a2 : AV) (H : AHeap) : Option (AV × AHeap) := forget H (afinR slices_EqualFunc_bauta_api_Leak.res (slices_EqualFunc_bauta_api_Leak.body leak_Same.spec (args0 [a0, a1, a2]) H))
def slices_EqualFunc_bauta_api_Leak.spec : List AV → AHeap → Option (AV × AHeap)
  | [a0, a1, a2], H => slices_EqualFunc_bauta_api_Leak a0 a1 a2 H
  | _, _ => none
namespace run_Road
def C (s0 : SpecM) : Tab := (Tab.none.add 73 (.ref [true, true, false] s0))
@[simp] def r0 (fr : AFr) (H : AHeap) : ARes :=
 areg (some (AFr.al [(0, fr 0), (1, fr 1)], H))
@[simp] def r1 (s0 : SpecM) (fr : AFr) (H : AHeap) : ARes :=
 areg (@opi _ (callM [true, true, false] s0 [[some 10], [some 10], [none]] [(fr 0), (fr 1), (.clo 31 [] [])] H) ⟨fun v7 H =>
 some (AFr.al [(4, v7)], H)⟩)
@[simp] def body (s0 : SpecM) (fr : AFr) (H : AHeap) : ARes :=
  @aseqi (r0 fr H) ⟨fun fr H =>
 @aseqi (r1 s0 fr H) ⟨fun fr H =>
 some (.ret, fr, H)⟩⟩
@[simp] def res (fr : AFr) (H : AHeap) : Option (List AV) := res2 (some (fr 4)) (some [])
end run_Road
def run_Road (a0 a1 : AV) : Option AV := closeUpR (some [[none]]) (afinR run_Road.res (run_Road.body slices_EqualFunc_bauta_api_Leak.spec (args0 [a0, a1]) AHeap.empty))
def run_Road.spec : List AV → Option AV
  | [a0, a1] => run_Road a0 a1
  | _ => none
namespace run_Cycles
def C : Tab := Tab.none
@[simp] def r0 (fr : AFr) (H : AHeap) : ARes :=
 areg (some (AFr.al [(0, fr 0)], H))
@[simp] def r1 (fr : AFr) (H : AHeap) : ARes :=
 areg (some (AFr.al [(0, fr 0), (3, (.int .i64 0))], H))
@[simp] def r2 (fr : AFr) (H : AHeap) : ARes :=
 areg (@opi _ (lift (alenR .sl (fr 0)) H) ⟨fun v8 H =>
 some (AFr.al [(0, fr 0), (3, fr 3), (7, (fr 0)), (8, v8), (9, (.int .i64 0))], H)⟩)
@[simp] def r3 (fr : AFr) (H : AHeap) : ARes :=
 areg (@opi _ (lift (abinR .x .lss (fr 9) (fr 8)) H) ⟨fun v10 H =>
 some (AFr.al [(0, fr 0), (3, fr 3), (7, fr 7), (8, fr 8), (9, fr 9), (10, v10)], H)⟩)
@[simp] def r4 (fr : AFr) (H : AHeap) : ARes :=
 areg (@opi _ (lift (aindexAddrR (.sl 10) (fr 7) (fr 9)) H) ⟨fun v12 H =>
 @opi _ (lift (aloadR (some (some 10)) v12 H) H) ⟨fun v13 H =>
 @opi _ (aallocR T.ty_api_Leak (some (.agg [(W32 0#32), (W16 0#16), (W32 0#32), (W32 0#32), (W32 0#32), (W32 0#32), (W32 0#32), (W32 0#32), (.bool false), (.bool false)])) H) ⟨fun v5 H =>
 @opi _ (liftS (astoreR (some 10) v5 v13 H)) ⟨fun _ H =>
 some (AFr.al [(0, fr 0), (3, fr 3), (4, (fr 9)), (5, v5), (7, fr 7), (8, fr 8), (9, fr 9)], H)⟩⟩⟩⟩)
@[simp] def r5 (fr : AFr) (H : AHeap) : ARes :=
 areg (@opi _ (lift (afieldAddrR (some 1) (fr 5)) H) ⟨fun v14 H =>
 @opi _ (lift (aloadR (some none) v14 H) H) ⟨fun v15 H =>
 @opi _ (lift (abinR .x .shr v15 (W64 11#64)) H) ⟨fun v16 H =>
 @opi _ (lift (abinR .x .eql v16 (W16 28#16)) H) ⟨fun v17 H =>
 @opi _ (@gdi (gw v17 false) ⟨lift (afieldAddrR (some 1) (fr 5)) H⟩ H) ⟨fun v19 H =>
 @opi _ (@gdi (gw v17 false) ⟨lift (aloadR (some none) v19 H) H⟩ H) ⟨fun v20 H =>
 @opi _ (@gdi (gw v17 false) ⟨lift (abinR .x .shr v20 (W64 12#64)) H⟩ H) ⟨fun v21 H =>
 @opi _ (@gdi (gw v17 false) ⟨lift (abinR .x .eql v21 (W16 13#16)) H⟩ H) ⟨fun v22 H =>
 @opi _ (lift (apick v17 (.bool true) v22) H) ⟨fun v23 H =>
 some (AFr.al [(0, fr 0), (3, fr 3), (4, fr 4), (5, fr 5), (6, v23), (7, fr 7), (8, fr 8), (9, fr 9)], H)⟩⟩⟩⟩⟩⟩⟩⟩⟩)
@[simp] def r7 (fr : AFr) (H : AHeap) : ARes :=
 areg (@opi _ (lift (afieldAddrR (some 8) (fr 5)) H) ⟨fun v27 H =>
 @opi _ (lift (aloadR (some none) v27 H) H) ⟨fun v28 H =>
 some (AFr.al [(0, fr 0), (3, fr 3), (4, fr 4), (5, fr 5), (6, fr 6), (7, fr 7), (8, fr 8), (9, fr 9), (26, v28)], H)⟩⟩)
@[simp] def r8 (fr : AFr) (H : AHeap) : ARes :=
 areg (@opi _ (lift (abinR .x .add (fr 3) (.int .i64 2)) H) ⟨fun v30 H =>
 some (AFr.al [(0, fr 0), (3, v30), (7, fr 7), (8, fr 8), (9, fr 9)], H)⟩)
@[simp] def r9 (fr : AFr) (H : AHeap) : ARes :=
 areg (@opi _ (lift (some (fr 6)) H) ⟨fun v32 H1 =>
 @opi _ (lift (some v32) H1) ⟨fun v33 H2 =>
 @opi _ (@gdi (gw v33 true) ⟨lift (some (fr 4)) H2⟩ H2) ⟨fun v34 H3 =>
 @opi _ (@gdi (gw v33 true) ⟨lift (abinR .x .add v34 (.int .i64 1)) H3⟩ H3) ⟨fun v35 H4 =>
 @opi _ (@gdi (gw v33 true) ⟨lift (some (fr 0)) H4⟩ H4) ⟨fun v36 H5 =>
 @opi _ (@gdi (gw v33 true) ⟨lift (alenR .sl v36) H5⟩ H5) ⟨fun v37 H6 =>
 @opi _ (@gdi (gw v33 true) ⟨lift (abinR .x .lss v35 v37) H6⟩ H6) ⟨fun v38 H7 =>
 @opi _ (lift (apick v33 v38 (.bool false)) H7) ⟨fun v39 H8 =>
 @opi _ (lift (some v39) H8) ⟨fun v40 H9 =>
 @opi _ (@gdi (gw v40 true) ⟨lift (some (fr 0)) H9⟩ H9) ⟨fun v41 H10 =>
 @opi _ (@gdi (gw v40 true) ⟨lift (some (fr 4)) H10⟩ H10) ⟨fun v42 H11 =>
 @opi _ (@gdi (gw v40 true) ⟨lift (abinR .x .add v42 (.int .i64 1)) H11⟩ H11) ⟨fun v43 H12 =>
 @opi _ (@gdi (gw v40 true) ⟨lift (aindexAddrR (.sl 10) v41 v43) H12⟩ H12) ⟨fun v44 H13 =>
 @opi _ (@gdi (gw v40 true) ⟨lift (afieldAddrR (some 0) v44) H13⟩ H13) ⟨fun v45 H14 =>
 @opi _ (@gdi (gw v40 true) ⟨lift (aloadR (some none) v45 H14) H14⟩ H14) ⟨fun v46 H15 =>
 @opi _ (@gdi (gw v40 true) ⟨lift (afieldAddrR (some 0) (fr 5)) H15⟩ H15) ⟨fun v47 H16 =>
 @opi _ (@gdi (gw v40 true) ⟨lift (aloadR (some none) v47 H16) H16⟩ H16) ⟨fun v48 H17 =>
 @opi _ (@gdi (gw v40 true) ⟨lift (abinR .x .add v48 (W32 2#32)) H17⟩ H17) ⟨fun v49 H18 =>
 @opi _ (@gdi (gw v40 true) ⟨lift (abinR .x .neq v46 v49) H18⟩ H18) ⟨fun v50 H19 =>
 @opi _ (lift (apick v40 v50 (.bool false)) H19) ⟨fun v51 H20 =>
 @opi _ (lift (some v51) H20) ⟨fun v31 H21 =>
 some (AFr.al [(0, fr 0), (3, fr 3), (7, fr 7), (8, fr 8), (9, fr 9), (31, v31)], H21)⟩⟩⟩⟩⟩⟩⟩⟩⟩⟩⟩⟩⟩⟩⟩⟩⟩⟩⟩⟩⟩)
@[simp] def r10 (fr : AFr) (H : AHeap) : ARes :=
 areg (@opi _ (lift (abinR .x .add (fr 3) (.int .i64 3)) H) ⟨fun v53 H =>
 some (AFr.al [(0, fr 0), (3, v53), (7, fr 7), (8, fr 8), (9, fr 9)], H)⟩)
@[simp] def r6 (fr : AFr) (H : AHeap) : ARes :=
 areg (@opi _ (lift (abinR .x .add (fr 3) (.int .i64 1)) H) ⟨fun v25 H =>
 some (AFr.al [(0, fr 0), (3, v25), (7, fr 7), (8, fr 8), (9, fr 9)], H)⟩)
@[simp] def r11 (fr : AFr) (H : AHeap) : ARes :=
 areg (@opi _ (lift (abinR .x .add (fr 9) (.int .i64 1)) H) ⟨fun v54 H =>
 some (AFr.al [(0, fr 0), (3, fr 3), (7, fr 7), (8, fr 8), (9, v54)], H)⟩)
@[simp] def r12 (fr : AFr) (H : AHeap) : ARes :=
 areg (some (AFr.al [(2, (fr 3))], H))
def l0 (fr : AFr) (H : AHeap) : ARes :=
  @aseqi (r3 fr H) ⟨fun fr H =>
 @aseqi (@acondi (fr 10)
 ⟨some (.normal, fr, H)⟩
 ⟨some (.exit 0, fr, H)⟩) ⟨fun fr H =>
 @aseqi (aexit 1 (@aseqi (r4 fr H) ⟨fun fr H =>
 @aseqi (r5 fr H) ⟨fun fr H =>
  aexit 2 (@aseqi (r7 fr H) ⟨fun fr H =>
 @acondi (fr 26)
 ⟨r8 fr H⟩
 ⟨@aseqi (r9 fr H) ⟨fun fr H =>
 @acondi (fr 31)
 ⟨r10 fr H⟩
 ⟨r6 fr H⟩⟩⟩⟩)⟩⟩)) ⟨fun fr H =>
 r11 fr H⟩⟩⟩
@[simp] def body (fr : AFr) (H : AHeap) : ARes :=
  @aseqi (r0 fr H) ⟨fun fr H =>
 @aseqi (r1 fr H) ⟨fun fr H =>
 @aseqi (@aseqi (r2 fr H) ⟨fun fr H =>
  aexit 0 (aloop (l0) fr H)⟩) ⟨fun fr H =>
 @aseqi (r12 fr H) ⟨fun fr H =>
 some (.ret, fr, H)⟩⟩⟩⟩
@[simp] def res (fr : AFr) (H : AHeap) : Option (List AV) := res2 (some (fr 2)) (some [])
end run_Cycles
def run_Cycles (a0 : AV) : Option AV := closeUpR (some [[none]]) (afinR run_Cycles.res (run_Cycles.body (args0 [a0]) AHeap.empty))
def run_Cycles.spec : List AV → Option AV
  | [a0] => run_Cycles a0
  | _ => none
end
end Go.Abs
