/-
  The functions, as they are over abstract values. Printed by gen.py.
-/
import Derived.Test.YtncablokgkejjaaLoF
import Derived.Test.YtncablokgkejjaaLeF
import Derived.Test.YtncablokgkejjaaCoF
set_option linter.unusedVariables false
namespace Go.Abs
noncomputable section
namespace run_goes
def C (s0 s1 s2 s3 s4 s5 : SpecM) : Tab := ((((((Tab.none.add 15 (.ref [true, false, true] s0)).add 25 (.ref [false, false, false] s1)).add 28 (.ref [true, false] s2)).add 17 (.ref [true, false] s3)).add 27 (.ref [false] s4)).add 20 (.ref [false] s5))
@[simp] def r0 (fr : AFr) (H : AHeap) : ARes :=
 areg (o' (aallocR T.ty_api_Outcome (some (.agg [(.int .i64 0), (.int .i64 0), (.int .i64 0), .nils, .nils])) H) ⟨fun v10 H =>
 e' [(0, fr 0), (1, fr 1), (2, fr 2), (3, fr 3), (4, fr 4), (10, v10)] H⟩)
@[simp] def r1 (s0 : SpecM) (fr : AFr) (H : AHeap) : ARes :=
 areg (q' (alenR .sl (fr 1)) H ⟨fun v21 H =>
 o' (callM [true, false, true] s0 [[some 1], [none], [some 1]] [(fr 0), v21, (fr 2)] H) ⟨fun v23 H =>
 e' [(1, fr 1), (3, fr 3), (4, fr 4), (10, fr 10), (11, v23)] H⟩⟩)
@[simp] def r2 (fr : AFr) (H : AHeap) : ARes :=
 areg (q' (alenR .sl (fr 1)) H ⟨fun v25 H =>
 e' [(3, fr 3), (4, fr 4), (10, fr 10), (11, fr 11), (24, (fr 1)), (25, v25), (26, (.int .i64 0))] H⟩)
@[simp] def r3 (fr : AFr) (H : AHeap) : ARes :=
 areg (q' (bn' .lss (fr 26) (fr 25)) H ⟨fun v27 H =>
 e' [(3, fr 3), (4, fr 4), (10, fr 10), (11, fr 11), (24, fr 24), (25, fr 25), (26, fr 26), (27, v27)] H⟩)
@[simp] def r4 (fr : AFr) (H : AHeap) : ARes :=
 areg (q' (aindexAddrR (.sl 1) (fr 24) (fr 26)) H ⟨fun v29 H =>
 q' (ld' v29 H) H ⟨fun v30 H =>
 e' [(3, fr 3), (4, fr 4), (10, fr 10), (11, fr 11), (12, (fr 26)), (13, v30), (24, fr 24), (25, fr 25), (26, fr 26)] H⟩⟩)
@[simp] def r5 (s1 : SpecM) (fr : AFr) (H : AHeap) : ARes :=
 areg (o' (callM [false, false, false] s1 [[none], [none], [none]] [(fr 11), (fr 12), (fr 13)] H) ⟨fun v34 H =>
 e' [(3, fr 3), (4, fr 4), (10, fr 10), (11, fr 11), (24, fr 24), (25, fr 25), (26, fr 26)] H⟩)
@[simp] def r6 (fr : AFr) (H : AHeap) : ARes :=
 areg (q' (bn' .add (fr 26) (.int .i64 1)) H ⟨fun v35 H =>
 e' [(3, fr 3), (4, fr 4), (10, fr 10), (11, fr 11), (24, fr 24), (25, fr 25), (26, v35)] H⟩)
@[simp] def r7 (fr : AFr) (H : AHeap) : ARes :=
 areg (q' (amax (fr 3) (.int .i64 0)) H ⟨fun v37 H =>
 q' (amin v37 (.int .i64 1048576)) H ⟨fun v38 H =>
 e' [(3, v38), (4, fr 4), (10, fr 10), (11, fr 11)] H⟩⟩)
@[simp] def r8 (fr : AFr) (H : AHeap) : ARes :=
 areg (q' (abuildR (.str [(.int .i64 0), (.int .i64 0), (.int .i64 0), .nils, .nils] [(0, 1), (1, 1), (2, 1), (3, 1), (4, 1)]) [(2, (.int .i64 80))]) H ⟨fun v39 H =>
 o' (aallocR T.ty_api_Outcome (some (.agg [(.int .i64 0), (.int .i64 0), (.int .i64 0), .nils, .nils])) H) ⟨fun v14 H =>
 w' (astoreR (some 5) v14 v39 H) ⟨fun _ H =>
 e' [(3, fr 3), (4, fr 4), (10, fr 10), (11, fr 11), (14, v14)] H⟩⟩⟩)
@[simp] def r9 (fr : AFr) (H : AHeap) : ARes :=
 areg (o' (aallocR T.ty_api_State (some (.agg [(W32 0#32), (W32 0#32), (W32 0#32), (W32 0#32), (W32 0#32), (W32 0#32), (W32 0#32), (W32 0#32), (W32 0#32), (.bool false), (.bool false), (.bool false), (.bool false)])) H) ⟨fun v15 H =>
 e' [(3, fr 3), (4, fr 4), (10, fr 10), (11, fr 11), (14, fr 14), (15, v15)] H⟩)
@[simp] def r10 (fr : AFr) (H : AHeap) : ARes :=
 areg (q' (fa' 0 (fr 14)) H ⟨fun v40 H =>
 q' (ld' v40 H) H ⟨fun v41 H =>
 q' (bn' .lss v41 (fr 3)) H ⟨fun v43 H =>
 e' [(3, fr 3), (4, fr 4), (10, fr 10), (11, fr 11), (14, fr 14), (15, fr 15), (43, v43)] H⟩⟩⟩)
@[simp] def r11 (fr : AFr) (H : AHeap) : ARes :=
 areg (o' (aallocR T.ty_api_Leak (some (.agg [(W32 0#32), (W16 0#16), (W32 0#32), (W32 0#32), (W32 0#32), (W32 0#32), (W32 0#32), (W32 0#32), (.bool false), (.bool false)])) H) ⟨fun v16 H =>
 e' [(3, fr 3), (4, fr 4), (10, fr 10), (11, fr 11), (14, fr 14), (15, fr 15), (16, v16)] H⟩)
@[simp] def r12 (fr : AFr) (H : AHeap) : ARes :=
 areg (e' [(3, fr 3), (4, fr 4), (10, fr 10), (11, fr 11), (14, fr 14), (15, fr 15), (16, fr 16)] H)
@[simp] def r13 (fr : AFr) (H : AHeap) : ARes :=
 areg (e' [(3, fr 3), (4, fr 4), (10, fr 10), (11, fr 11), (14, fr 14), (15, fr 15), (16, fr 16)] H)
@[simp] def r14 (fr : AFr) (H : AHeap) : ARes :=
 areg (e' [(3, fr 3), (4, fr 4), (10, fr 10), (11, fr 11), (14, fr 14), (15, fr 15), (16, fr 16), (44, (fr 4))] H)
@[simp] def r15 (s2 : SpecM) (fr : AFr) (H : AHeap) : ARes :=
 areg (q' (Ld' 13 (fr 15) H) H ⟨fun v46 H =>
 o' (callM [true, false] s2 [[none, none, none, none, none, none, none, none, none, none, none, none, none], [none]] [v46, (fr 11)] H) ⟨fun v48 H =>
 q' (aextract v48 0) H ⟨fun v49 H =>
 q' (aextract v48 1) H ⟨fun v50 H =>
 q' (aextract v48 2) H ⟨fun v51 H =>
 q' (aextract v48 3) H ⟨fun v52 H =>
 w' (astoreR (some 13) (fr 15) v49 H) ⟨fun _ H =>
 w' (astoreR (some 10) (fr 16) v50 H) ⟨fun _ H =>
 e' [(3, fr 3), (4, fr 4), (10, fr 10), (11, fr 11), (14, fr 14), (15, fr 15), (16, fr 16), (17, v51), (18, v52)] H⟩⟩⟩⟩⟩⟩⟩⟩)
@[simp] def r16 (s3 : SpecM) (fr : AFr) (H : AHeap) : ARes :=
 areg (q' (Ld' 13 (fr 15) H) H ⟨fun v54 H =>
 o' (callM [true, false] s3 [[none, none, none, none, none, none, none, none, none, none, none, none, none], [none]] [v54, (fr 11)] H) ⟨fun v56 H =>
 q' (aextract v56 0) H ⟨fun v57 H =>
 q' (aextract v56 1) H ⟨fun v58 H =>
 q' (aextract v56 2) H ⟨fun v59 H =>
 w' (astoreR (some 13) (fr 15) v57 H) ⟨fun _ H =>
 e' [(3, fr 3), (4, fr 4), (10, fr 10), (11, fr 11), (14, fr 14), (15, fr 15), (16, fr 16), (17, v58), (18, v59)] H⟩⟩⟩⟩⟩⟩)
@[simp] def r17 (fr : AFr) (H : AHeap) : ARes :=
 areg (q' (bn' .neq (fr 18) (.int .i64 0)) H ⟨fun v61 H =>
 e' [(3, fr 3), (4, fr 4), (10, fr 10), (11, fr 11), (14, fr 14), (15, fr 15), (16, fr 16), (17, fr 17), (18, fr 18), (61, v61)] H⟩)
@[simp] def r18 (fr : AFr) (H : AHeap) : ARes :=
 areg (q' (fa' 2 (fr 14)) H ⟨fun v63 H =>
 w' (astoreR (some 1) v63 (fr 18) H) ⟨fun _ H =>
 e' [(10, fr 10), (11, fr 11), (14, fr 14)] H⟩⟩)
@[simp] def r19 (fr : AFr) (H : AHeap) : ARes :=
 areg (q' (fa' 0 (fr 14)) H ⟨fun v64 H =>
 q' (ld' v64 H) H ⟨fun v65 H =>
 q' (bn' .add v65 (.int .i64 1)) H ⟨fun v66 H =>
 q' (fa' 0 (fr 14)) H ⟨fun v67 H =>
 w' (astoreR (some 1) v67 v66 H) ⟨fun _ H =>
 e' [(3, fr 3), (4, fr 4), (10, fr 10), (11, fr 11), (14, fr 14), (15, fr 15), (16, fr 16), (17, fr 17)] H⟩⟩⟩⟩⟩)
@[simp] def r20 (fr : AFr) (H : AHeap) : ARes :=
 areg (e' [(3, fr 3), (4, fr 4), (10, fr 10), (11, fr 11), (14, fr 14), (15, fr 15), (16, fr 16), (17, fr 17), (68, (fr 4))] H)
@[simp] def r21 (fr : AFr) (H : AHeap) : ARes :=
 areg (q' (fa' 4 (fr 14)) H ⟨fun v69 H =>
 q' (ld' v69 H) H ⟨fun v70 H =>
 q' (Ld' 10 (fr 16) H) H ⟨fun v71 H =>
 o' (abuildSliceR (some ⟨T.ty_api_Leak, 10, 36, [(W32 0#32), (W16 0#16), (W32 0#32), (W32 0#32), (W32 0#32), (W32 0#32), (W32 0#32), (W32 0#32), (.bool false), (.bool false)]⟩) 1 [(0, v71)] H) ⟨fun v72 H =>
 o' (aappendR (some ⟨T.ty_api_Leak, 10, 36, [(W32 0#32), (W16 0#16), (W32 0#32), (W32 0#32), (W32 0#32), (W32 0#32), (W32 0#32), (W32 0#32), (.bool false), (.bool false)]⟩) v70 v72 H) ⟨fun v73 H =>
 q' (fa' 4 (fr 14)) H ⟨fun v74 H =>
 w' (astoreR (some 1) v74 v73 H) ⟨fun _ H =>
 e' [(3, fr 3), (4, fr 4), (10, fr 10), (11, fr 11), (14, fr 14), (15, fr 15), (17, fr 17)] H⟩⟩⟩⟩⟩⟩⟩)
@[simp] def r22 (fr : AFr) (H : AHeap) : ARes :=
 areg (e' [(3, fr 3), (4, fr 4), (10, fr 10), (11, fr 11), (14, fr 14), (15, fr 15), (75, (fr 17))] H)
@[simp] def r23 (fr : AFr) (H : AHeap) : ARes :=
 areg (q' (fa' 2 (fr 14)) H ⟨fun v76 H =>
 w' (astoreR (some 1) v76 (.int .i64 0) H) ⟨fun _ H =>
 e' [(10, fr 10), (11, fr 11), (14, fr 14)] H⟩⟩)
@[simp] def r24 (s4 s5 : SpecM) (fr : AFr) (H : AHeap) : ARes :=
 areg (o' (callM [false] s4 [[none]] [(fr 11)] H) ⟨fun v78 H =>
 o' (callM [false] s5 [[none]] [(fr 11)] H) ⟨fun v80 H =>
 q' (fa' 1 (fr 14)) H ⟨fun v81 H =>
 w' (astoreR (some 1) v81 v78 H) ⟨fun _ H =>
 q' (fa' 3 (fr 14)) H ⟨fun v82 H =>
 w' (astoreR (some 1) v82 v80 H) ⟨fun _ H =>
 e' [(10, fr 10), (14, fr 14)] H⟩⟩⟩⟩⟩⟩)
@[simp] def r25 (fr : AFr) (H : AHeap) : ARes :=
 areg (q' (Ld' 5 (fr 14) H) H ⟨fun v83 H =>
 w' (astoreR (some 5) (fr 10) v83 H) ⟨fun _ H =>
 e' [(10, fr 10)] H⟩⟩)
def l0 (s0 s1 s2 s3 s4 s5 : SpecM) (fr : AFr) (H : AHeap) : ARes :=
  s' (r3 fr H) ⟨fun fr H =>
 s' (c' (fr 27)
 ⟨some (.normal, fr, H)⟩
 ⟨some (.exit 0, fr, H)⟩) ⟨fun fr H =>
 s' (aexit 1 (s' (r4 fr H) ⟨fun fr H =>
 r5 s1 fr H⟩)) ⟨fun fr H =>
 r6 fr H⟩⟩⟩
def l1 (s0 s1 s2 s3 s4 s5 : SpecM) (fr : AFr) (H : AHeap) : ARes :=
  s' (s' (r10 fr H) ⟨fun fr H =>
 c' (fr 43)
 ⟨some (.normal, fr, H)⟩
 ⟨some (.exit 2, fr, H)⟩⟩) ⟨fun fr H =>
  aexit 3 (s' (r11 fr H) ⟨fun fr H =>
 s' (r12 fr H) ⟨fun fr H =>
 s' (r13 fr H) ⟨fun fr H =>
 s' (s' (r14 fr H) ⟨fun fr H =>
 c' (fr 44)
 ⟨r15 s2 fr H⟩
 ⟨r16 s3 fr H⟩⟩) ⟨fun fr H =>
 s' (s' (r17 fr H) ⟨fun fr H =>
 c' (fr 61)
 ⟨s' (r18 fr H) ⟨fun fr H =>
 some (.exit 2, fr, H)⟩⟩
 ⟨some (.normal, fr, H)⟩⟩) ⟨fun fr H =>
 s' (r19 fr H) ⟨fun fr H =>
 s' (s' (r20 fr H) ⟨fun fr H =>
 c' (fr 68)
 ⟨r21 fr H⟩
 ⟨some (.normal, fr, H)⟩⟩) ⟨fun fr H =>
 s' (r22 fr H) ⟨fun fr H =>
 c' (fr 75)
 ⟨s' (r23 fr H) ⟨fun fr H =>
 some (.exit 2, fr, H)⟩⟩
 ⟨some (.normal, fr, H)⟩⟩⟩⟩⟩⟩⟩⟩⟩)⟩
@[simp] def body (s0 s1 s2 s3 s4 s5 : SpecM) (fr : AFr) (H : AHeap) : ARes :=
  s' (r0 fr H) ⟨fun fr H =>
 s' (r1 s0 fr H) ⟨fun fr H =>
 s' (s' (r2 fr H) ⟨fun fr H =>
  aexit 0 (aloop (l0 s0 s1 s2 s3 s4 s5) fr H)⟩) ⟨fun fr H =>
 s' (r7 fr H) ⟨fun fr H =>
 s' (r8 fr H) ⟨fun fr H =>
 s' (r9 fr H) ⟨fun fr H =>
 s' (aexit 2 (aloop (l1 s0 s1 s2 s3 s4 s5) fr H)) ⟨fun fr H =>
 s' (r24 s4 s5 fr H) ⟨fun fr H =>
 s' (r25 fr H) ⟨fun fr H =>
 some (.ret, fr, H)⟩⟩⟩⟩⟩⟩⟩⟩⟩
@[simp] def res (fr : AFr) (H : AHeap) : Option (List AV) := res2 (aloadR (some (some 5)) (fr 10) H) (some [])
end run_goes
def run_goes (a0 a1 a2 a3 a4 : AV) : Option AV := closeUpR (some [[none, none, none, some 1, some 10]]) (afinR run_goes.res (run_goes.body mem_New.spec mem_Mem_Set.spec leak_Step.spec core_Step.spec mem_Mem_Drawn.spec mem_Mem_Words.spec (args0 [a0, a1, a2, a3, a4]) AHeap.empty))
def run_goes.spec : List AV → Option AV
  | [a0, a1, a2, a3, a4] => run_goes a0 a1 a2 a3 a4
  | _ => none
namespace run_Exec
def C (s0 : SpecP) : Tab := (Tab.none.add 72 (.pure false s0))
@[simp] def r0 (fr : AFr) (H : AHeap) : ARes :=
 areg (o' (aallocR T.ty_api_Outcome (some (.agg [(.int .i64 0), (.int .i64 0), (.int .i64 0), .nils, .nils])) H) ⟨fun v8 H =>
 e' [(0, fr 0), (1, fr 1), (2, fr 2), (3, fr 3), (8, v8)] H⟩)
@[simp] def r1 (s0 : SpecP) (fr : AFr) (H : AHeap) : ARes :=
 areg (o' (callP false s0 [[some 1], [some 1], [some 1], [none], [none]] [(fr 0), (fr 1), (fr 2), (fr 3), (.bool true)] H) ⟨fun v13 H =>
 w' (astoreR (some 5) (fr 8) v13 H) ⟨fun _ H =>
 e' [(8, fr 8)] H⟩⟩)
@[simp] def body (s0 : SpecP) (fr : AFr) (H : AHeap) : ARes :=
  s' (r0 fr H) ⟨fun fr H =>
 s' (r1 s0 fr H) ⟨fun fr H =>
 some (.ret, fr, H)⟩⟩
@[simp] def res (fr : AFr) (H : AHeap) : Option (List AV) := res2 (aloadR (some (some 5)) (fr 8) H) (some [])
end run_Exec
def run_Exec (a0 a1 a2 a3 : AV) : Option AV := closeUpR (some [[none, none, none, some 1, some 10]]) (afinR run_Exec.res (run_Exec.body run_goes.spec (args0 [a0, a1, a2, a3]) AHeap.empty))
def run_Exec.spec : List AV → Option AV
  | [a0, a1, a2, a3] => run_Exec a0 a1 a2 a3
  | _ => none
namespace run_Quick
def C (s0 : SpecP) : Tab := (Tab.none.add 72 (.pure false s0))
@[simp] def r0 (fr : AFr) (H : AHeap) : ARes :=
 areg (o' (aallocR T.ty_api_Outcome (some (.agg [(.int .i64 0), (.int .i64 0), (.int .i64 0), .nils, .nils])) H) ⟨fun v8 H =>
 e' [(0, fr 0), (1, fr 1), (2, fr 2), (3, fr 3), (8, v8)] H⟩)
@[simp] def r1 (s0 : SpecP) (fr : AFr) (H : AHeap) : ARes :=
 areg (o' (callP false s0 [[some 1], [some 1], [some 1], [none], [none]] [(fr 0), (fr 1), (fr 2), (fr 3), (.bool false)] H) ⟨fun v13 H =>
 w' (astoreR (some 5) (fr 8) v13 H) ⟨fun _ H =>
 e' [(8, fr 8)] H⟩⟩)
@[simp] def body (s0 : SpecP) (fr : AFr) (H : AHeap) : ARes :=
  s' (r0 fr H) ⟨fun fr H =>
 s' (r1 s0 fr H) ⟨fun fr H =>
 some (.ret, fr, H)⟩⟩
@[simp] def res (fr : AFr) (H : AHeap) : Option (List AV) := res2 (aloadR (some (some 5)) (fr 8) H) (some [])
end run_Quick
def run_Quick (a0 a1 a2 a3 : AV) : Option AV := closeUpR (some [[none, none, none, some 1, some 10]]) (afinR run_Quick.res (run_Quick.body run_goes.spec (args0 [a0, a1, a2, a3]) AHeap.empty))
def run_Quick.spec : List AV → Option AV
  | [a0, a1, a2, a3] => run_Quick a0 a1 a2 a3
  | _ => none
end
end Go.Abs
