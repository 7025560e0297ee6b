/-
  The functions, as they are over abstract values. Printed by gen.py.
-/
import Derived.Test.YthignlpdeaglaaaIxF
set_option linter.unusedVariables false
namespace Go.Abs
noncomputable section
namespace probe_asked_looks_1
def C : Tab := Tab.none
@[simp] def r0 (fr : AFr) (H : AHeap) : ARes :=
 areg (e' [(0, fr 0), (1, fr 1)] H)
@[simp] def r1 (fr : AFr) (H : AHeap) : ARes :=
 areg (q' (bn' .lss (fr 0) (.int .i64 0)) H ⟨fun v5 H =>
 G' v5 false ⟨some (fr 0)⟩ H ⟨fun v7 H =>
 G' v5 false ⟨fa' 0 (fr 1)⟩ H ⟨fun v8 H =>
 G' v5 false ⟨fa' 0 v8⟩ H ⟨fun v9 H =>
 G' v5 false ⟨ld' v9 H⟩ H ⟨fun v10 H =>
 G' v5 false ⟨fa' 0 (fr 1)⟩ H ⟨fun v11 H =>
 G' v5 false ⟨fa' 1 v11⟩ H ⟨fun v12 H =>
 G' v5 false ⟨ld' v12 H⟩ H ⟨fun v13 H =>
 G' v5 false ⟨alenR .sl v13⟩ H ⟨fun v14 H =>
 G' v5 false ⟨bn' .add v10 v14⟩ H ⟨fun v15 H =>
 G' v5 false ⟨bn' .geq v7 v15⟩ H ⟨fun v16 H =>
 q' (apick v5 (.bool true) v16) H ⟨fun v17 H =>
 e' [(3, v17)] H⟩⟩⟩⟩⟩⟩⟩⟩⟩⟩⟩⟩)
@[simp] def body (fr : AFr) (H : AHeap) : ARes :=
  s' (r0 fr H) ⟨fun fr H =>
 s' (r1 fr H) ⟨fun fr H =>
 some (.ret, fr, H)⟩⟩
@[simp] def res (fr : AFr) (H : AHeap) : Option (List AV) := res2 (some (fr 3)) (some [])
end probe_asked_looks_1
def probe_asked_looks_1 (a0 a1 : AV) (H : AHeap) : Option (AV × AHeap) := forget H (afinR probe_asked_looks_1.res (probe_asked_looks_1.body (args0 [a0, a1]) H))
def probe_asked_looks_1.spec : List AV → AHeap → Option (AV × AHeap)
  | [a0, a1], H => probe_asked_looks_1 a0 a1 H
  | _, _ => none
namespace slices_IndexFunc_int
def C (s0 : SpecM) : Tab := (Tab.none.add 64 (.ref [false] s0))
@[simp] def r0 (fr : AFr) (H : AHeap) : ARes :=
 areg (e' [(0, fr 0), (1, fr 1)] H)
@[simp] def r1 (fr : AFr) (H : AHeap) : ARes :=
 areg (q' (alenR .sl (fr 0)) H ⟨fun v7 H =>
 e' [(0, fr 0), (1, fr 1), (7, v7), (8, (.int .i64 0))] H⟩)
@[simp] def r2 (fr : AFr) (H : AHeap) : ARes :=
 areg (q' (bn' .lss (fr 8) (fr 7)) H ⟨fun v9 H =>
 e' [(0, fr 0), (1, fr 1), (7, fr 7), (8, fr 8), (9, v9)] H⟩)
@[simp] def r3 (fr : AFr) (H : AHeap) : ARes :=
 areg (e' [(0, fr 0), (1, fr 1), (5, (fr 8)), (7, fr 7), (8, fr 8)] H)
@[simp] def r4 (s0 : SpecM) (fr : AFr) (H : AHeap) : ARes :=
 areg (q' (aindexAddrR (.sl 1) (fr 0) (fr 5)) H ⟨fun v14 H =>
 q' (ld' v14 H) H ⟨fun v15 H =>
 o' (acallClo (C s0) (some [[none]]) (fr 1) [v15] H) ⟨fun v16 H =>
 e' [(0, fr 0), (1, fr 1), (5, fr 5), (7, fr 7), (8, fr 8), (16, v16)] H⟩⟩⟩)
@[simp] def r5 (fr : AFr) (H : AHeap) : ARes :=
 areg (e' [(4, (fr 5))] H)
@[simp] def r6 (fr : AFr) (H : AHeap) : ARes :=
 areg (q' (bn' .add (fr 8) (.int .i64 1)) H ⟨fun v18 H =>
 e' [(0, fr 0), (1, fr 1), (7, fr 7), (8, v18)] H⟩)
@[simp] def r7 (fr : AFr) (H : AHeap) : ARes :=
 areg (e' [(4, (.int .i64 (-1)))] H)
def l0 (s0 : SpecM) (fr : AFr) (H : AHeap) : ARes :=
  s' (r2 fr H) ⟨fun fr H =>
 s' (c' (fr 9)
 ⟨some (.normal, fr, H)⟩
 ⟨some (.exit 0, fr, H)⟩) ⟨fun fr H =>
 s' (aexit 1 (s' (r3 fr H) ⟨fun fr H =>
 s' (r4 s0 fr H) ⟨fun fr H =>
 c' (fr 16)
 ⟨s' (r5 fr H) ⟨fun fr H =>
 some (.ret, fr, H)⟩⟩
 ⟨some (.normal, fr, H)⟩⟩⟩)) ⟨fun fr H =>
 r6 fr H⟩⟩⟩
@[simp] def body (s0 : SpecM) (fr : AFr) (H : AHeap) : ARes :=
  s' (r0 fr H) ⟨fun fr H =>
 s' (s' (r1 fr H) ⟨fun fr H =>
  aexit 0 (aloop (l0 s0) fr H)⟩) ⟨fun fr H =>
 s' (r7 fr H) ⟨fun fr H =>
 some (.ret, fr, H)⟩⟩⟩
@[simp] def res (fr : AFr) (H : AHeap) : Option (List AV) := res2 (some (fr 4)) (some [])
end slices_IndexFunc_int
def slices_IndexFunc_int (a0 a1 : AV) (H : AHeap) : Option (AV × AHeap) := forget H (afinR slices_IndexFunc_int.res (slices_IndexFunc_int.body probe_asked_looks_1.spec (args0 [a0, a1]) H))
def slices_IndexFunc_int.spec : List AV → AHeap → Option (AV × AHeap)
  | [a0, a1], H => slices_IndexFunc_int a0 a1 H
  | _, _ => none
namespace slices_ContainsFunc_int
def C (s0 : SpecM) : Tab := (Tab.none.add 74 (.ref [true, false] s0))
@[simp] def r0 (fr : AFr) (H : AHeap) : ARes :=
 areg (e' [(0, fr 0), (1, fr 1)] H)
@[simp] def r1 (s0 : SpecM) (fr : AFr) (H : AHeap) : ARes :=
 areg (o' (callM [true, false] s0 [[some 1], [none]] [(fr 0), (fr 1)] H) ⟨fun v7 H =>
 q' (bn' .geq v7 (.int .i64 0)) H ⟨fun v8 H =>
 e' [(4, v8)] H⟩⟩)
@[simp] def body (s0 : SpecM) (fr : AFr) (H : AHeap) : ARes :=
  s' (r0 fr H) ⟨fun fr H =>
 s' (r1 s0 fr H) ⟨fun fr H =>
 some (.ret, fr, H)⟩⟩
@[simp] def res (fr : AFr) (H : AHeap) : Option (List AV) := res2 (some (fr 4)) (some [])
end slices_ContainsFunc_int
def slices_ContainsFunc_int (a0 a1 : AV) (H : AHeap) : Option (AV × AHeap) := forget H (afinR slices_ContainsFunc_int.res (slices_ContainsFunc_int.body slices_IndexFunc_int.spec (args0 [a0, a1]) H))
def slices_ContainsFunc_int.spec : List AV → AHeap → Option (AV × AHeap)
  | [a0, a1], H => slices_ContainsFunc_int a0 a1 H
  | _, _ => none
namespace probe_asked_looks
def C (s0 : SpecP) (s1 : SpecM) (s2 : SpecP) : Tab := (((Tab.none.add 33 (.pure false s0)).add 63 (.ref [true, false] s1)).add 34 (.pure false s2))
@[simp] def r0 (fr : AFr) (H : AHeap) : ARes :=
 areg (o' (abox T.ty_probe_asked (fr 0) H) ⟨fun v2 H =>
 e' [(1, fr 1), (2, v2)] H⟩)
@[simp] def r1 (s0 : SpecP) (fr : AFr) (H : AHeap) : ARes :=
 areg (q' (fa' 0 (fr 2)) H ⟨fun v6 H =>
 q' (Ld' 3 v6 H) H ⟨fun v7 H =>
 o' (callP false s0 [[none, some 4, some 1]] [v7] H) ⟨fun v8 H =>
 q' (aun .not v8) H ⟨fun v9 H =>
 e' [(1, fr 1), (2, fr 2), (5, v9)] H⟩⟩⟩⟩)
@[simp] def r2 (fr : AFr) (H : AHeap) : ARes :=
 areg (q' (fa' 3 (fr 2)) H ⟨fun v10 H =>
 q' (ld' v10 H) H ⟨fun v11 H =>
 q' (bn' .lss v11 (.int .i64 0)) H ⟨fun v12 H =>
 e' [(1, fr 1), (2, fr 2), (5, v12)] H⟩⟩⟩)
@[simp] def r3 (fr : AFr) (H : AHeap) : ARes :=
 areg (q' (fa' 3 (fr 2)) H ⟨fun v13 H =>
 q' (ld' v13 H) H ⟨fun v14 H =>
 q' (bn' .gtr v14 (.int .i64 4)) H ⟨fun v15 H =>
 e' [(1, fr 1), (2, fr 2), (5, v15)] H⟩⟩⟩)
@[simp] def r4 (fr : AFr) (H : AHeap) : ARes :=
 areg (q' (fa' 4 (fr 2)) H ⟨fun v16 H =>
 q' (ld' v16 H) H ⟨fun v17 H =>
 q' (bn' .lss v17 (.int .i64 0)) H ⟨fun v18 H =>
 e' [(1, fr 1), (2, fr 2), (5, v18)] H⟩⟩⟩)
@[simp] def r5 (fr : AFr) (H : AHeap) : ARes :=
 areg (q' (fa' 4 (fr 2)) H ⟨fun v19 H =>
 q' (ld' v19 H) H ⟨fun v20 H =>
 q' (bn' .gtr v20 (.int .i64 6)) H ⟨fun v21 H =>
 e' [(1, fr 1), (2, fr 2), (5, v21)] H⟩⟩⟩)
@[simp] def r6 (fr : AFr) (H : AHeap) : ARes :=
 areg (q' (fa' 3 (fr 2)) H ⟨fun v22 H =>
 q' (ld' v22 H) H ⟨fun v23 H =>
 q' (fa' 4 (fr 2)) H ⟨fun v24 H =>
 q' (ld' v24 H) H ⟨fun v25 H =>
 q' (bn' .add v25 (.int .i64 1)) H ⟨fun v26 H =>
 q' (bn' .mul v23 v26) H ⟨fun v27 H =>
 q' (fa' 0 (fr 2)) H ⟨fun v28 H =>
 q' (fa' 0 v28) H ⟨fun v29 H =>
 q' (ld' v29 H) H ⟨fun v30 H =>
 q' (bn' .gtr v27 v30) H ⟨fun v31 H =>
 e' [(1, fr 1), (2, fr 2), (5, v31)] H⟩⟩⟩⟩⟩⟩⟩⟩⟩⟩)
@[simp] def r7 (fr : AFr) (H : AHeap) : ARes :=
 areg (e' [(4, (.int .i64 1))] H)
@[simp] def r8 (s1 : SpecM) (fr : AFr) (H : AHeap) : ARes :=
 areg (q' (some (.clo 64 [] [(fr 2)])) H ⟨fun v34 H =>
 o' (callM [true, false] s1 [[some 1], [none]] [(fr 1), v34] H) ⟨fun v35 H =>
 e' [(1, fr 1), (2, fr 2), (32, v35)] H⟩⟩)
@[simp] def r9 (fr : AFr) (H : AHeap) : ARes :=
 areg (e' [(4, (.int .i64 1))] H)
@[simp] def r10 (s2 : SpecP) (fr : AFr) (H : AHeap) : ARes :=
 areg (q' (fa' 3 (fr 2)) H ⟨fun v37 H1 =>
 q' (ld' v37 H1) H1 ⟨fun v38 H2 =>
 q' (fa' 4 (fr 2)) H2 ⟨fun v39 H3 =>
 q' (ld' v39 H3) H3 ⟨fun v40 H4 =>
 q' (bn' .mul v38 v40) H4 ⟨fun v41 H5 =>
 q' (fa' 0 (fr 2)) H5 ⟨fun v42 H6 =>
 q' (Ld' 3 v42 H6) H6 ⟨fun v43 H7 =>
 o' (callP false s2 [[none, some 4, some 1]] [v43] H7) ⟨fun v44 H8 =>
 q' (bn' .add v41 v44) H8 ⟨fun v45 H9 =>
 q' (bn' .gtr v45 (.int .i64 12)) H9 ⟨fun v46 H10 =>
 q' (some v46) H10 ⟨fun v36 H11 =>
 withChk [aloadR (some none) v37 H7 = aloadR (some none) v37 H8, aloadR (some none) v39 H7 = aloadR (some none) v39 H8] (e' [(1, fr 1), (36, v36)] H11)⟩⟩⟩⟩⟩⟩⟩⟩⟩⟩⟩)
@[simp] def r11 (fr : AFr) (H : AHeap) : ARes :=
 areg (q' (alenR .sl (fr 1)) H ⟨fun v48 H =>
 q' (bn' .gtr v48 (.int .i64 5)) H ⟨fun v49 H =>
 e' [(36, v49)] H⟩⟩)
@[simp] def r12 (fr : AFr) (H : AHeap) : ARes :=
 areg (e' [(4, (.int .i64 150))] H)
@[simp] def r13 (fr : AFr) (H : AHeap) : ARes :=
 areg (e' [(4, (.int .i64 0))] H)
@[simp] def body (s0 : SpecP) (s1 : SpecM) (s2 : SpecP) (fr : AFr) (H : AHeap) : ARes :=
  s' (r0 fr H) ⟨fun fr H =>
 s' (aexit 0 (s' (s' (r1 s0 fr H) ⟨fun fr H =>
 c' (fr 5)
 ⟨some (.normal, fr, H)⟩
 ⟨s' (r2 fr H) ⟨fun fr H =>
 c' (fr 5)
 ⟨some (.normal, fr, H)⟩
 ⟨s' (r3 fr H) ⟨fun fr H =>
 c' (fr 5)
 ⟨some (.normal, fr, H)⟩
 ⟨s' (r4 fr H) ⟨fun fr H =>
 c' (fr 5)
 ⟨some (.normal, fr, H)⟩
 ⟨s' (r5 fr H) ⟨fun fr H =>
 c' (fr 5)
 ⟨some (.normal, fr, H)⟩
 ⟨r6 fr H⟩⟩⟩⟩⟩⟩⟩⟩⟩⟩) ⟨fun fr H =>
 c' (fr 5)
 ⟨s' (r7 fr H) ⟨fun fr H =>
 some (.ret, fr, H)⟩⟩
 ⟨s' (r8 s1 fr H) ⟨fun fr H =>
 c' (fr 32)
 ⟨s' (r9 fr H) ⟨fun fr H =>
 some (.ret, fr, H)⟩⟩
 ⟨s' (s' (r10 s2 fr H) ⟨fun fr H =>
 c' (fr 36)
 ⟨some (.normal, fr, H)⟩
 ⟨r11 fr H⟩⟩) ⟨fun fr H =>
 c' (fr 36)
 ⟨s' (r12 fr H) ⟨fun fr H =>
 some (.ret, fr, H)⟩⟩
 ⟨some (.normal, fr, H)⟩⟩⟩⟩⟩⟩)) ⟨fun fr H =>
 s' (r13 fr H) ⟨fun fr H =>
 some (.ret, fr, H)⟩⟩⟩
@[simp] def res (fr : AFr) (H : AHeap) : Option (List AV) := res2 (some (fr 4)) (some [])
end probe_asked_looks
def probe_asked_looks (a0 a1 : AV) : Option AV := closeUpR (some [[none]]) (afinR probe_asked_looks.res (probe_asked_looks.body isw_Can.spec slices_ContainsFunc_int.spec isw_Randoms.spec (args0 [a0, a1]) AHeap.empty))
def probe_asked_looks.spec : List AV → Option AV
  | [a0, a1] => probe_asked_looks a0 a1
  | _ => none
namespace probe_bits
def C : Tab := Tab.none
@[simp] def r0 (fr : AFr) (H : AHeap) : ARes :=
 areg (e' [(0, fr 0), (1, fr 1)] H)
@[simp] def r1 (fr : AFr) (H : AHeap) : ARes :=
 areg (e' [(0, fr 0), (1, fr 1), (5, .nils)] H)
@[simp] def r2 (fr : AFr) (H : AHeap) : ARes :=
 areg (e' [(0, fr 0), (5, fr 5), (7, (fr 1)), (8, (.int .i64 0))] H)
@[simp] def r3 (fr : AFr) (H : AHeap) : ARes :=
 areg (q' (bn' .lss (fr 8) (fr 7)) H ⟨fun v9 H =>
 e' [(0, fr 0), (5, fr 5), (7, fr 7), (8, fr 8), (9, v9)] H⟩)
@[simp] def r4 (fr : AFr) (H : AHeap) : ARes :=
 areg (e' [(0, fr 0), (5, fr 5), (6, (fr 8)), (7, fr 7), (8, fr 8)] H)
@[simp] def r5 (fr : AFr) (H : AHeap) : ARes :=
 areg (q' (bn' .shr (fr 0) (fr 6)) H ⟨fun v14 H =>
 q' (bn' .and v14 (W32 1#32)) H ⟨fun v15 H =>
 o' (abuildSliceR (some ⟨T.ty_uint32, 1, 4, [(W32 0#32)]⟩) 1 [(0, v15)] H) ⟨fun v16 H =>
 o' (aappendR (some ⟨T.ty_uint32, 1, 4, [(W32 0#32)]⟩) (fr 5) v16 H) ⟨fun v17 H =>
 e' [(0, fr 0), (5, v17), (7, fr 7), (8, fr 8)] H⟩⟩⟩⟩)
@[simp] def r6 (fr : AFr) (H : AHeap) : ARes :=
 areg (q' (bn' .add (fr 8) (.int .i64 1)) H ⟨fun v18 H =>
 e' [(0, fr 0), (5, fr 5), (7, fr 7), (8, v18)] H⟩)
@[simp] def r7 (fr : AFr) (H : AHeap) : ARes :=
 areg (e' [(4, (fr 5))] H)
def l0 (fr : AFr) (H : AHeap) : ARes :=
  s' (r3 fr H) ⟨fun fr H =>
 s' (c' (fr 9)
 ⟨some (.normal, fr, H)⟩
 ⟨some (.exit 0, fr, H)⟩) ⟨fun fr H =>
 s' (aexit 1 (s' (r4 fr H) ⟨fun fr H =>
 r5 fr H⟩)) ⟨fun fr H =>
 r6 fr H⟩⟩⟩
@[simp] def body (fr : AFr) (H : AHeap) : ARes :=
  s' (r0 fr H) ⟨fun fr H =>
 s' (r1 fr H) ⟨fun fr H =>
 s' (s' (r2 fr H) ⟨fun fr H =>
  aexit 0 (aloop (l0) fr H)⟩) ⟨fun fr H =>
 s' (r7 fr H) ⟨fun fr H =>
 some (.ret, fr, H)⟩⟩⟩⟩
@[simp] def res (fr : AFr) (H : AHeap) : Option (List AV) := res2 (some (fr 4)) (some [])
end probe_bits
def probe_bits (a0 a1 : AV) : Option AV := closeUpR (some [[some 1]]) (afinR probe_bits.res (probe_bits.body (args0 [a0, a1]) AHeap.empty))
def probe_bits.spec : List AV → Option AV
  | [a0, a1] => probe_bits a0 a1
  | _ => none
namespace share_join
def C : Tab := Tab.none
@[simp] def r0 (fr : AFr) (H : AHeap) : ARes :=
 areg (e' [(0, fr 0)] H)
@[simp] def r1 (fr : AFr) (H : AHeap) : ARes :=
 areg (e' [(0, fr 0), (3, (W32 0#32))] H)
@[simp] def r2 (fr : AFr) (H : AHeap) : ARes :=
 areg (q' (alenR .sl (fr 0)) H ⟨fun v7 H =>
 e' [(3, fr 3), (6, (fr 0)), (7, v7), (8, (.int .i64 0))] H⟩)
@[simp] def r3 (fr : AFr) (H : AHeap) : ARes :=
 areg (q' (bn' .lss (fr 8) (fr 7)) H ⟨fun v9 H =>
 e' [(3, fr 3), (6, fr 6), (7, fr 7), (8, fr 8), (9, v9)] H⟩)
@[simp] def r4 (fr : AFr) (H : AHeap) : ARes :=
 areg (q' (aindexAddrR (.sl 1) (fr 6) (fr 8)) H ⟨fun v10 H =>
 q' (ld' v10 H) H ⟨fun v11 H =>
 e' [(3, fr 3), (5, v11), (6, fr 6), (7, fr 7), (8, fr 8)] H⟩⟩)
@[simp] def r5 (fr : AFr) (H : AHeap) : ARes :=
 areg (q' (bn' .xor (fr 3) (fr 5)) H ⟨fun v14 H =>
 e' [(3, v14), (6, fr 6), (7, fr 7), (8, fr 8)] H⟩)
@[simp] def r6 (fr : AFr) (H : AHeap) : ARes :=
 areg (q' (bn' .add (fr 8) (.int .i64 1)) H ⟨fun v15 H =>
 e' [(3, fr 3), (6, fr 6), (7, fr 7), (8, v15)] H⟩)
@[simp] def r7 (fr : AFr) (H : AHeap) : ARes :=
 areg (e' [(2, (fr 3))] H)
def l0 (fr : AFr) (H : AHeap) : ARes :=
  s' (r3 fr H) ⟨fun fr H =>
 s' (c' (fr 9)
 ⟨some (.normal, fr, H)⟩
 ⟨some (.exit 0, fr, H)⟩) ⟨fun fr H =>
 s' (aexit 1 (s' (r4 fr H) ⟨fun fr H =>
 r5 fr H⟩)) ⟨fun fr H =>
 r6 fr H⟩⟩⟩
@[simp] def body (fr : AFr) (H : AHeap) : ARes :=
  s' (r0 fr H) ⟨fun fr H =>
 s' (r1 fr H) ⟨fun fr H =>
 s' (s' (r2 fr H) ⟨fun fr H =>
  aexit 0 (aloop (l0) fr H)⟩) ⟨fun fr H =>
 s' (r7 fr H) ⟨fun fr H =>
 some (.ret, fr, H)⟩⟩⟩⟩
@[simp] def res (fr : AFr) (H : AHeap) : Option (List AV) := res2 (some (fr 2)) (some [])
end share_join
def share_join (a0 : AV) : Option AV := closeUpR (some [[none]]) (afinR share_join.res (share_join.body (args0 [a0]) AHeap.empty))
def share_join.spec : List AV → Option AV
  | [a0] => share_join a0
  | _ => none
namespace share_Split
def C (s0 : SpecP) : Tab := (Tab.none.add 75 (.pure false s0))
@[simp] def r0 (fr : AFr) (H : AHeap) : ARes :=
 areg (e' [(0, fr 0), (1, fr 1)] H)
@[simp] def r1 (s0 : SpecP) (fr : AFr) (H : AHeap) : ARes :=
 areg (o' (callP false s0 [[some 1]] [(fr 1)] H) ⟨fun v7 H =>
 q' (bn' .xor (fr 0) v7) H ⟨fun v8 H =>
 o' (abuildSliceR (some ⟨T.ty_uint32, 1, 4, [(W32 0#32)]⟩) 1 [(0, v8)] H) ⟨fun v9 H =>
 o' (aappendR (some ⟨T.ty_uint32, 1, 4, [(W32 0#32)]⟩) v9 (fr 1) H) ⟨fun v11 H =>
 e' [(4, v11)] H⟩⟩⟩⟩)
@[simp] def body (s0 : SpecP) (fr : AFr) (H : AHeap) : ARes :=
  s' (r0 fr H) ⟨fun fr H =>
 s' (r1 s0 fr H) ⟨fun fr H =>
 some (.ret, fr, H)⟩⟩
@[simp] def res (fr : AFr) (H : AHeap) : Option (List AV) := res2 (some (fr 4)) (some [])
end share_Split
def share_Split (a0 a1 : AV) : Option AV := closeUpR (some [[some 1]]) (afinR share_Split.res (share_Split.body share_join.spec (args0 [a0, a1]) AHeap.empty))
def share_Split.spec : List AV → Option AV
  | [a0, a1] => share_Split a0 a1
  | _ => none
namespace probe_asked_spread
def C (s0 s1 s2 s3 : SpecP) : Tab := ((((Tab.none.add 34 (.pure false s0)).add 66 (.pure false s1)).add 67 (.pure false s2)).add 37 (.pure false s3))
@[simp] def r0 (fr : AFr) (H : AHeap) : ARes :=
 areg (o' (abox T.ty_probe_asked (fr 0) H) ⟨fun v4 H =>
 e' [(1, fr 1), (2, fr 2), (3, fr 3), (4, v4)] H⟩)
@[simp] def r1 (fr : AFr) (H : AHeap) : ARes :=
 areg (q' (alenR .sl (fr 3)) H ⟨fun v23 H =>
 q' (bn' .shl (.int .i64 1) v23) H ⟨fun v24 H =>
 o' (amakeR (some ⟨T.ty_int, 1, 8, [(.int .i64 0)]⟩) v24 v24 H) ⟨fun v25 H =>
 e' [(1, fr 1), (2, fr 2), (3, fr 3), (4, fr 4), (9, v25)] H⟩⟩⟩)
@[simp] def r2 (s0 : SpecP) (fr : AFr) (H : AHeap) : ARes :=
 areg (q' (fa' 3 (fr 4)) H ⟨fun v26 H1 =>
 q' (ld' v26 H1) H1 ⟨fun v27 H2 =>
 q' (fa' 4 (fr 4)) H2 ⟨fun v28 H3 =>
 q' (ld' v28 H3) H3 ⟨fun v29 H4 =>
 q' (bn' .mul v27 v29) H4 ⟨fun v30 H5 =>
 q' (fa' 0 (fr 4)) H5 ⟨fun v31 H6 =>
 q' (Ld' 3 v31 H6) H6 ⟨fun v32 H7 =>
 o' (callP false s0 [[none, some 4, some 1]] [v32] H7) ⟨fun v33 H8 =>
 q' (some v30) H8 ⟨fun v10 H9 =>
 q' (some v33) H9 ⟨fun v11 H10 =>
 withChk [aloadR (some none) v26 H7 = aloadR (some none) v26 H8, aloadR (some none) v28 H7 = aloadR (some none) v28 H8] (e' [(1, fr 1), (2, fr 2), (3, fr 3), (4, fr 4), (9, fr 9), (10, v10), (11, v11)] H10)⟩⟩⟩⟩⟩⟩⟩⟩⟩⟩)
@[simp] def r3 (fr : AFr) (H : AHeap) : ARes :=
 areg (q' (bn' .add (fr 10) (fr 11)) H ⟨fun v36 H =>
 q' (bn' .shl (W32 1#32) v36) H ⟨fun v37 H =>
 e' [(1, fr 1), (2, fr 2), (3, fr 3), (4, fr 4), (9, fr 9), (10, fr 10), (11, fr 11), (37, v37), (38, (W32 0#32))] H⟩⟩)
@[simp] def r4 (fr : AFr) (H : AHeap) : ARes :=
 areg (q' (bn' .lss (fr 38) (fr 37)) H ⟨fun v39 H =>
 e' [(1, fr 1), (2, fr 2), (3, fr 3), (4, fr 4), (9, fr 9), (10, fr 10), (11, fr 11), (37, fr 37), (38, fr 38), (39, v39)] H⟩)
@[simp] def r5 (fr : AFr) (H : AHeap) : ARes :=
 areg (e' [(1, fr 1), (2, fr 2), (3, fr 3), (4, fr 4), (9, fr 9), (10, fr 10), (11, fr 11), (12, (fr 38)), (37, fr 37), (38, fr 38)] H)
@[simp] def r6 (s1 : SpecP) (fr : AFr) (H : AHeap) : ARes :=
 areg (o' (callP false s1 [[none], [none]] [(fr 12), (fr 10)] H) ⟨fun v43 H =>
 e' [(1, fr 1), (2, fr 2), (3, fr 3), (4, fr 4), (9, fr 9), (10, fr 10), (11, fr 11), (12, fr 12), (13, v43), (37, fr 37), (38, fr 38)] H⟩)
@[simp] def r7 (fr : AFr) (H : AHeap) : ARes :=
 areg (e' [(1, fr 1), (2, fr 2), (3, fr 3), (4, fr 4), (9, fr 9), (10, fr 10), (11, fr 11), (12, fr 12), (13, fr 13), (14, .nils), (37, fr 37), (38, fr 38)] H)
@[simp] def r8 (fr : AFr) (H : AHeap) : ARes :=
 areg (q' (fa' 3 (fr 4)) H ⟨fun v44 H =>
 q' (ld' v44 H) H ⟨fun v45 H =>
 e' [(1, fr 1), (2, fr 2), (3, fr 3), (4, fr 4), (9, fr 9), (10, fr 10), (11, fr 11), (12, fr 12), (13, fr 13), (14, fr 14), (37, fr 37), (38, fr 38), (45, v45), (46, (.int .i64 0))] H⟩⟩)
@[simp] def r9 (fr : AFr) (H : AHeap) : ARes :=
 areg (q' (bn' .lss (fr 46) (fr 45)) H ⟨fun v47 H =>
 e' [(1, fr 1), (2, fr 2), (3, fr 3), (4, fr 4), (9, fr 9), (10, fr 10), (11, fr 11), (12, fr 12), (13, fr 13), (14, fr 14), (37, fr 37), (38, fr 38), (45, fr 45), (46, fr 46), (47, v47)] H⟩)
@[simp] def r10 (fr : AFr) (H : AHeap) : ARes :=
 areg (e' [(1, fr 1), (2, fr 2), (3, fr 3), (4, fr 4), (9, fr 9), (10, fr 10), (11, fr 11), (12, fr 12), (13, fr 13), (14, fr 14), (15, (fr 46)), (37, fr 37), (38, fr 38), (45, fr 45), (46, fr 46)] H)
@[simp] def r11 (s2 : SpecP) (fr : AFr) (H : AHeap) : ARes :=
 areg (q' (some (fr 14)) H ⟨fun v49 H1 =>
 q' (some (fr 1)) H1 ⟨fun v50 H2 =>
 q' (some (fr 15)) H2 ⟨fun v51 H3 =>
 q' (bn' .shr v50 v51) H3 ⟨fun v52 H4 =>
 q' (bn' .and v52 (W32 1#32)) H4 ⟨fun v53 H5 =>
 q' (some (fr 13)) H5 ⟨fun v54 H6 =>
 q' (some (fr 15)) H6 ⟨fun v55 H7 =>
 q' (fa' 4 (fr 4)) H7 ⟨fun v56 H8 =>
 q' (ld' v56 H8) H8 ⟨fun v57 H9 =>
 q' (bn' .mul v55 v57) H9 ⟨fun v58 H10 =>
 q' (some (fr 15)) H10 ⟨fun v59 H11 =>
 q' (bn' .add v59 (.int .i64 1)) H11 ⟨fun v60 H12 =>
 q' (fa' 4 (fr 4)) H12 ⟨fun v61 H13 =>
 q' (ld' v61 H13) H13 ⟨fun v62 H14 =>
 q' (bn' .mul v60 v62) H14 ⟨fun v63 H15 =>
 q' (asliceR (.sl 1) v54 (some v58) (some v63) none) H15 ⟨fun v64 H16 =>
 o' (callP false s2 [[none], [some 1]] [v53, v64] H16) ⟨fun v65 H17 =>
 o' (aappendR (some ⟨T.ty_uint32, 1, 4, [(W32 0#32)]⟩) v49 v65 H17) ⟨fun v66 H18 =>
 q' (some v66) H18 ⟨fun v14 H19 =>
 e' [(1, fr 1), (2, fr 2), (3, fr 3), (4, fr 4), (9, fr 9), (10, fr 10), (11, fr 11), (12, fr 12), (13, fr 13), (14, v14), (37, fr 37), (38, fr 38), (45, fr 45), (46, fr 46)] H19⟩⟩⟩⟩⟩⟩⟩⟩⟩⟩⟩⟩⟩⟩⟩⟩⟩⟩⟩)
@[simp] def r12 (fr : AFr) (H : AHeap) : ARes :=
 areg (q' (bn' .add (fr 46) (.int .i64 1)) H ⟨fun v67 H =>
 e' [(1, fr 1), (2, fr 2), (3, fr 3), (4, fr 4), (9, fr 9), (10, fr 10), (11, fr 11), (12, fr 12), (13, fr 13), (14, fr 14), (37, fr 37), (38, fr 38), (45, fr 45), (46, v67)] H⟩)
@[simp] def r13 (fr : AFr) (H : AHeap) : ARes :=
 areg (q' (alenR .sl (fr 14)) H ⟨fun v69 H =>
 e' [(1, fr 1), (2, fr 2), (3, fr 3), (4, fr 4), (9, fr 9), (10, fr 10), (11, fr 11), (12, fr 12), (14, fr 14), (16, v69), (37, fr 37), (38, fr 38)] H⟩)
@[simp] def r14 (fr : AFr) (H : AHeap) : ARes :=
 areg (q' (fa' 0 (fr 4)) H ⟨fun v71 H =>
 q' (fa' 0 v71) H ⟨fun v72 H =>
 q' (ld' v72 H) H ⟨fun v73 H =>
 q' (bn' .lss (fr 16) v73) H ⟨fun v74 H =>
 e' [(1, fr 1), (2, fr 2), (3, fr 3), (4, fr 4), (9, fr 9), (10, fr 10), (11, fr 11), (12, fr 12), (14, fr 14), (16, fr 16), (37, fr 37), (38, fr 38), (74, v74)] H⟩⟩⟩⟩)
@[simp] def r16 (fr : AFr) (H : AHeap) : ARes :=
 areg (q' (bn' .rem (fr 16) (.int .i64 32)) H ⟨fun v80 H =>
 q' (bn' .shr (fr 2) v80) H ⟨fun v81 H =>
 q' (bn' .and v81 (W32 1#32)) H ⟨fun v82 H =>
 o' (abuildSliceR (some ⟨T.ty_uint32, 1, 4, [(W32 0#32)]⟩) 1 [(0, v82)] H) ⟨fun v83 H =>
 o' (aappendR (some ⟨T.ty_uint32, 1, 4, [(W32 0#32)]⟩) (fr 14) v83 H) ⟨fun v84 H =>
 e' [(1, fr 1), (2, fr 2), (3, fr 3), (4, fr 4), (9, fr 9), (10, fr 10), (11, fr 11), (12, fr 12), (14, v84), (16, fr 16), (37, fr 37), (38, fr 38)] H⟩⟩⟩⟩⟩)
@[simp] def r15 (fr : AFr) (H : AHeap) : ARes :=
 areg (q' (bn' .add (fr 16) (.int .i64 1)) H ⟨fun v76 H =>
 e' [(1, fr 1), (2, fr 2), (3, fr 3), (4, fr 4), (9, fr 9), (10, fr 10), (11, fr 11), (12, fr 12), (14, fr 14), (16, v76), (37, fr 37), (38, fr 38)] H⟩)
@[simp] def r17 (s1 s3 : SpecP) (fr : AFr) (H : AHeap) : ARes :=
 areg (q' (fa' 0 (fr 4)) H ⟨fun v86 H1 =>
 q' (Ld' 3 v86 H1) H1 ⟨fun v87 H2 =>
 q' (some (fr 14)) H2 ⟨fun v88 H3 =>
 q' (some (fr 12)) H3 ⟨fun v89 H4 =>
 q' (some (fr 10)) H4 ⟨fun v90 H5 =>
 q' (bn' .shr v89 v90) H5 ⟨fun v91 H6 =>
 q' (some (fr 11)) H6 ⟨fun v92 H7 =>
 o' (callP false s1 [[none], [none]] [v91, v92] H7) ⟨fun v93 H8 =>
 o' (callP false s3 [[none, some 4, some 1], [some 1], [some 1]] [v87, v88, v93] H8) ⟨fun v94 H9 =>
 q' (some v94) H9 ⟨fun v85 H10 =>
 q' (aextract v85 0) H10 ⟨fun v95 H11 =>
 q' (aextract v85 1) H11 ⟨fun v96 H12 =>
 q' (some v95) H12 ⟨fun v17 H13 =>
 q' (some v96) H13 ⟨fun v18 H14 =>
 withChk [aloadR (some (some 3)) v86 H7 = aloadR (some (some 3)) v86 H8] (e' [(1, fr 1), (2, fr 2), (3, fr 3), (4, fr 4), (9, fr 9), (10, fr 10), (11, fr 11), (17, v17), (37, fr 37), (38, fr 38)] H14)⟩⟩⟩⟩⟩⟩⟩⟩⟩⟩⟩⟩⟩⟩)
@[simp] def r18 (fr : AFr) (H : AHeap) : ARes :=
 areg (e' [(1, fr 1), (2, fr 2), (3, fr 3), (4, fr 4), (9, fr 9), (10, fr 10), (11, fr 11), (17, fr 17), (19, (.int .i64 0)), (37, fr 37), (38, fr 38)] H)
@[simp] def r19 (fr : AFr) (H : AHeap) : ARes :=
 areg (q' (alenR .sl (fr 3)) H ⟨fun v98 H =>
 e' [(1, fr 1), (2, fr 2), (3, fr 3), (4, fr 4), (9, fr 9), (10, fr 10), (11, fr 11), (17, fr 17), (19, fr 19), (37, fr 37), (38, fr 38), (97, (fr 3)), (98, v98), (99, (.int .i64 0))] H⟩)
@[simp] def r20 (fr : AFr) (H : AHeap) : ARes :=
 areg (q' (bn' .lss (fr 99) (fr 98)) H ⟨fun v100 H =>
 e' [(1, fr 1), (2, fr 2), (3, fr 3), (4, fr 4), (9, fr 9), (10, fr 10), (11, fr 11), (17, fr 17), (19, fr 19), (37, fr 37), (38, fr 38), (97, fr 97), (98, fr 98), (99, fr 99), (100, v100)] H⟩)
@[simp] def r21 (fr : AFr) (H : AHeap) : ARes :=
 areg (q' (aindexAddrR (.sl 1) (fr 97) (fr 99)) H ⟨fun v101 H =>
 q' (ld' v101 H) H ⟨fun v102 H =>
 e' [(1, fr 1), (2, fr 2), (3, fr 3), (4, fr 4), (9, fr 9), (10, fr 10), (11, fr 11), (17, fr 17), (19, fr 19), (21, v102), (37, fr 37), (38, fr 38), (97, fr 97), (98, fr 98), (99, fr 99)] H⟩⟩)
@[simp] def r22 (fr : AFr) (H : AHeap) : ARes :=
 areg (q' (bn' .shl (fr 19) (W64 1#64)) H ⟨fun v104 H =>
 q' (aindexAddrR (.sl 1) (fr 17) (fr 21)) H ⟨fun v107 H =>
 q' (ld' v107 H) H ⟨fun v108 H =>
 q' (bn' .and v108 (W32 1#32)) H ⟨fun v109 H =>
 q' (aconvR (some .i64) v109) H ⟨fun v110 H =>
 q' (bn' .or v104 v110) H ⟨fun v111 H =>
 e' [(1, fr 1), (2, fr 2), (3, fr 3), (4, fr 4), (9, fr 9), (10, fr 10), (11, fr 11), (17, fr 17), (19, v111), (37, fr 37), (38, fr 38), (97, fr 97), (98, fr 98), (99, fr 99)] H⟩⟩⟩⟩⟩⟩)
@[simp] def r23 (fr : AFr) (H : AHeap) : ARes :=
 areg (q' (bn' .add (fr 99) (.int .i64 1)) H ⟨fun v112 H =>
 e' [(1, fr 1), (2, fr 2), (3, fr 3), (4, fr 4), (9, fr 9), (10, fr 10), (11, fr 11), (17, fr 17), (19, fr 19), (37, fr 37), (38, fr 38), (97, fr 97), (98, fr 98), (99, v112)] H⟩)
@[simp] def r24 (fr : AFr) (H : AHeap) : ARes :=
 areg (q' (aindexAddrR (.sl 1) (fr 9) (fr 19)) H ⟨fun v115 H =>
 q' (ld' v115 H) H ⟨fun v116 H =>
 q' (bn' .add v116 (.int .i64 1)) H ⟨fun v117 H =>
 q' (aindexAddrR (.sl 1) (fr 9) (fr 19)) H ⟨fun v118 H =>
 w' (astoreR (some 1) v118 v117 H) ⟨fun _ H =>
 e' [(1, fr 1), (2, fr 2), (3, fr 3), (4, fr 4), (9, fr 9), (10, fr 10), (11, fr 11), (37, fr 37), (38, fr 38)] H⟩⟩⟩⟩⟩)
@[simp] def r25 (fr : AFr) (H : AHeap) : ARes :=
 areg (q' (bn' .add (fr 38) (W32 1#32)) H ⟨fun v119 H =>
 e' [(1, fr 1), (2, fr 2), (3, fr 3), (4, fr 4), (9, fr 9), (10, fr 10), (11, fr 11), (37, fr 37), (38, v119)] H⟩)
@[simp] def r26 (fr : AFr) (H : AHeap) : ARes :=
 areg (e' [(8, (fr 9))] H)
def l1 (s0 s1 s2 s3 : SpecP) (fr : AFr) (H : AHeap) : ARes :=
  s' (r9 fr H) ⟨fun fr H =>
 s' (c' (fr 47)
 ⟨some (.normal, fr, H)⟩
 ⟨some (.exit 2, fr, H)⟩) ⟨fun fr H =>
 s' (aexit 3 (s' (r10 fr H) ⟨fun fr H =>
 r11 s2 fr H⟩)) ⟨fun fr H =>
 r12 fr H⟩⟩⟩
def l2 (s0 s1 s2 s3 : SpecP) (fr : AFr) (H : AHeap) : ARes :=
  s' (s' (r14 fr H) ⟨fun fr H =>
 c' (fr 74)
 ⟨some (.normal, fr, H)⟩
 ⟨some (.exit 4, fr, H)⟩⟩) ⟨fun fr H =>
 s' (aexit 5 (r16 fr H)) ⟨fun fr H =>
 r15 fr H⟩⟩
def l3 (s0 s1 s2 s3 : SpecP) (fr : AFr) (H : AHeap) : ARes :=
  s' (r20 fr H) ⟨fun fr H =>
 s' (c' (fr 100)
 ⟨some (.normal, fr, H)⟩
 ⟨some (.exit 6, fr, H)⟩) ⟨fun fr H =>
 s' (aexit 7 (s' (r21 fr H) ⟨fun fr H =>
 r22 fr H⟩)) ⟨fun fr H =>
 r23 fr H⟩⟩⟩
def l0 (s0 s1 s2 s3 : SpecP) (fr : AFr) (H : AHeap) : ARes :=
  s' (r4 fr H) ⟨fun fr H =>
 s' (c' (fr 39)
 ⟨some (.normal, fr, H)⟩
 ⟨some (.exit 0, fr, H)⟩) ⟨fun fr H =>
 s' (aexit 1 (s' (r5 fr H) ⟨fun fr H =>
 s' (r6 s1 fr H) ⟨fun fr H =>
 s' (r7 fr H) ⟨fun fr H =>
 s' (s' (r8 fr H) ⟨fun fr H =>
  aexit 2 (aloop (l1 s0 s1 s2 s3) fr H)⟩) ⟨fun fr H =>
 s' (s' (r13 fr H) ⟨fun fr H =>
  aexit 4 (aloop (l2 s0 s1 s2 s3) fr H)⟩) ⟨fun fr H =>
 s' (r17 s1 s3 fr H) ⟨fun fr H =>
 s' (r18 fr H) ⟨fun fr H =>
 s' (s' (r19 fr H) ⟨fun fr H =>
  aexit 6 (aloop (l3 s0 s1 s2 s3) fr H)⟩) ⟨fun fr H =>
 r24 fr H⟩⟩⟩⟩⟩⟩⟩⟩)) ⟨fun fr H =>
 r25 fr H⟩⟩⟩
@[simp] def body (s0 s1 s2 s3 : SpecP) (fr : AFr) (H : AHeap) : ARes :=
  s' (r0 fr H) ⟨fun fr H =>
 s' (r1 fr H) ⟨fun fr H =>
 s' (r2 s0 fr H) ⟨fun fr H =>
 s' (s' (r3 fr H) ⟨fun fr H =>
  aexit 0 (aloop (l0 s0 s1 s2 s3) fr H)⟩) ⟨fun fr H =>
 s' (r26 fr H) ⟨fun fr H =>
 some (.ret, fr, H)⟩⟩⟩⟩⟩
@[simp] def res (fr : AFr) (H : AHeap) : Option (List AV) := res2 (some (fr 8)) (some [])
end probe_asked_spread
def probe_asked_spread (a0 a1 a2 a3 : AV) : Option AV := closeUpR (some [[some 1]]) (afinR probe_asked_spread.res (probe_asked_spread.body isw_Randoms.spec probe_bits.spec share_Split.spec isw_Exec.spec (args0 [a0, a1, a2, a3]) AHeap.empty))
def probe_asked_spread.spec : List AV → Option AV
  | [a0, a1, a2, a3] => probe_asked_spread a0 a1 a2 a3
  | _ => none
namespace slices_Equal_int
def C : Tab := Tab.none
@[simp] def r0 (fr : AFr) (H : AHeap) : ARes :=
 areg (e' [(0, fr 0), (1, fr 1)] H)
@[simp] def r1 (fr : AFr) (H : AHeap) : ARes :=
 areg (q' (alenR .sl (fr 0)) H ⟨fun v7 H =>
 q' (alenR .sl (fr 1)) H ⟨fun v9 H =>
 q' (bn' .neq v7 v9) H ⟨fun v10 H =>
 e' [(0, fr 0), (1, fr 1), (10, v10)] H⟩⟩⟩)
@[simp] def r2 (fr : AFr) (H : AHeap) : ARes :=
 areg (e' [(4, (.bool false))] H)
@[simp] def r3 (fr : AFr) (H : AHeap) : ARes :=
 areg (q' (alenR .sl (fr 0)) H ⟨fun v12 H =>
 e' [(0, fr 0), (1, fr 1), (12, v12), (13, (.int .i64 0))] H⟩)
@[simp] def r4 (fr : AFr) (H : AHeap) : ARes :=
 areg (q' (bn' .lss (fr 13) (fr 12)) H ⟨fun v14 H =>
 e' [(0, fr 0), (1, fr 1), (12, fr 12), (13, fr 13), (14, v14)] H⟩)
@[simp] def r5 (fr : AFr) (H : AHeap) : ARes :=
 areg (e' [(0, fr 0), (1, fr 1), (5, (fr 13)), (12, fr 12), (13, fr 13)] H)
@[simp] def r6 (fr : AFr) (H : AHeap) : ARes :=
 areg (q' (some (fr 0)) H ⟨fun v16 H1 =>
 q' (some (fr 5)) H1 ⟨fun v17 H2 =>
 q' (aindexAddrR (.sl 1) v16 v17) H2 ⟨fun v18 H3 =>
 q' (ld' v18 H3) H3 ⟨fun v19 H4 =>
 q' (some (fr 1)) H4 ⟨fun v20 H5 =>
 q' (some (fr 5)) H5 ⟨fun v21 H6 =>
 q' (aindexAddrR (.sl 1) v20 v21) H6 ⟨fun v22 H7 =>
 q' (ld' v22 H7) H7 ⟨fun v23 H8 =>
 q' (bn' .neq v19 v23) H8 ⟨fun v24 H9 =>
 e' [(0, fr 0), (1, fr 1), (12, fr 12), (13, fr 13), (24, v24)] H9⟩⟩⟩⟩⟩⟩⟩⟩⟩)
@[simp] def r7 (fr : AFr) (H : AHeap) : ARes :=
 areg (e' [(4, (.bool false))] H)
@[simp] def r8 (fr : AFr) (H : AHeap) : ARes :=
 areg (q' (bn' .add (fr 13) (.int .i64 1)) H ⟨fun v25 H =>
 e' [(0, fr 0), (1, fr 1), (12, fr 12), (13, v25)] H⟩)
@[simp] def r9 (fr : AFr) (H : AHeap) : ARes :=
 areg (e' [(4, (.bool true))] H)
def l0 (fr : AFr) (H : AHeap) : ARes :=
  s' (r4 fr H) ⟨fun fr H =>
 s' (c' (fr 14)
 ⟨some (.normal, fr, H)⟩
 ⟨some (.exit 0, fr, H)⟩) ⟨fun fr H =>
 s' (aexit 1 (s' (r5 fr H) ⟨fun fr H =>
 s' (r6 fr H) ⟨fun fr H =>
 c' (fr 24)
 ⟨s' (r7 fr H) ⟨fun fr H =>
 some (.ret, fr, H)⟩⟩
 ⟨some (.normal, fr, H)⟩⟩⟩)) ⟨fun fr H =>
 r8 fr H⟩⟩⟩
@[simp] def body (fr : AFr) (H : AHeap) : ARes :=
  s' (r0 fr H) ⟨fun fr H =>
 s' (s' (r1 fr H) ⟨fun fr H =>
 c' (fr 10)
 ⟨s' (r2 fr H) ⟨fun fr H =>
 some (.ret, fr, H)⟩⟩
 ⟨some (.normal, fr, H)⟩⟩) ⟨fun fr H =>
 s' (s' (r3 fr H) ⟨fun fr H =>
  aexit 0 (aloop (l0) fr H)⟩) ⟨fun fr H =>
 s' (r9 fr H) ⟨fun fr H =>
 some (.ret, fr, H)⟩⟩⟩⟩
@[simp] def res (fr : AFr) (H : AHeap) : Option (List AV) := res2 (some (fr 4)) (some [])
end slices_Equal_int
def slices_Equal_int (a0 a1 : AV) : Option AV := closeUpR (some [[none]]) (afinR slices_Equal_int.res (slices_Equal_int.body (args0 [a0, a1]) AHeap.empty))
def slices_Equal_int.spec : List AV → Option AV
  | [a0, a1] => slices_Equal_int a0 a1
  | _ => none
namespace probe_asked_safe
def C (s0 s1 : SpecP) : Tab := ((Tab.none.add 46 (.pure false s0)).add 65 (.pure false s1))
@[simp] def r0 (fr : AFr) (H : AHeap) : ARes :=
 areg (o' (abox T.ty_probe_asked (fr 0) H) ⟨fun v3 H =>
 e' [(1, fr 1), (2, fr 2), (3, v3)] H⟩)
@[simp] def r1 (s0 : SpecP) (fr : AFr) (H : AHeap) : ARes :=
 areg (q' (Ld' 5 (fr 3) H) H ⟨fun v9 H =>
 o' (callP false s0 [[none, some 4, some 1, none, none], [none], [none], [some 1]] [v9, (W32 0#32), (fr 1), (fr 2)] H) ⟨fun v12 H =>
 e' [(1, fr 1), (2, fr 2), (3, fr 3), (7, v12)] H⟩⟩)
@[simp] def r2 (fr : AFr) (H : AHeap) : ARes :=
 areg (e' [(1, fr 1), (2, fr 2), (3, fr 3), (7, fr 7), (8, (W32 1#32))] H)
@[simp] def r3 (fr : AFr) (H : AHeap) : ARes :=
 areg (q' (fa' 3 (fr 3)) H ⟨fun v14 H =>
 q' (ld' v14 H) H ⟨fun v15 H =>
 q' (bn' .shl (W32 1#32) v15) H ⟨fun v16 H =>
 q' (bn' .lss (fr 8) v16) H ⟨fun v17 H =>
 e' [(1, fr 1), (2, fr 2), (3, fr 3), (7, fr 7), (8, fr 8), (17, v17)] H⟩⟩⟩⟩)
@[simp] def r5 (s0 s1 : SpecP) (fr : AFr) (H : AHeap) : ARes :=
 areg (q' (Ld' 5 (fr 3) H) H ⟨fun v20 H =>
 o' (callP false s0 [[none, some 4, some 1, none, none], [none], [none], [some 1]] [v20, (fr 8), (fr 1), (fr 2)] H) ⟨fun v24 H =>
 o' (callP false s1 [[some 1], [some 1]] [v24, (fr 7)] H) ⟨fun v26 H =>
 q' (aun .not v26) H ⟨fun v27 H =>
 e' [(1, fr 1), (2, fr 2), (3, fr 3), (7, fr 7), (8, fr 8), (27, v27)] H⟩⟩⟩⟩)
@[simp] def r6 (fr : AFr) (H : AHeap) : ARes :=
 areg (e' [(6, (.bool false))] H)
@[simp] def r4 (fr : AFr) (H : AHeap) : ARes :=
 areg (q' (bn' .add (fr 8) (W32 1#32)) H ⟨fun v19 H =>
 e' [(1, fr 1), (2, fr 2), (3, fr 3), (7, fr 7), (8, v19)] H⟩)
@[simp] def r7 (fr : AFr) (H : AHeap) : ARes :=
 areg (e' [(6, (.bool true))] H)
def l0 (s0 s1 : SpecP) (fr : AFr) (H : AHeap) : ARes :=
  s' (s' (r3 fr H) ⟨fun fr H =>
 c' (fr 17)
 ⟨some (.normal, fr, H)⟩
 ⟨some (.exit 0, fr, H)⟩⟩) ⟨fun fr H =>
 s' (aexit 1 (s' (r5 s0 s1 fr H) ⟨fun fr H =>
 c' (fr 27)
 ⟨s' (r6 fr H) ⟨fun fr H =>
 some (.ret, fr, H)⟩⟩
 ⟨some (.normal, fr, H)⟩⟩)) ⟨fun fr H =>
 r4 fr H⟩⟩
@[simp] def body (s0 s1 : SpecP) (fr : AFr) (H : AHeap) : ARes :=
  s' (r0 fr H) ⟨fun fr H =>
 s' (r1 s0 fr H) ⟨fun fr H =>
 s' (s' (r2 fr H) ⟨fun fr H =>
  aexit 0 (aloop (l0 s0 s1) fr H)⟩) ⟨fun fr H =>
 s' (r7 fr H) ⟨fun fr H =>
 some (.ret, fr, H)⟩⟩⟩⟩
@[simp] def res (fr : AFr) (H : AHeap) : Option (List AV) := res2 (some (fr 6)) (some [])
end probe_asked_safe
def probe_asked_safe (a0 a1 a2 : AV) : Option AV := closeUpR (some [[none]]) (afinR probe_asked_safe.res (probe_asked_safe.body probe_asked_spread.spec slices_Equal_int.spec (args0 [a0, a1, a2]) AHeap.empty))
def probe_asked_safe.spec : List AV → Option AV
  | [a0, a1, a2] => probe_asked_safe a0 a1 a2
  | _ => none
namespace probe_Safe
def C (s0 s1 : SpecP) : Tab := ((Tab.none.add 44 (.pure false s0)).add 45 (.pure false s1))
@[simp] def r0 (fr : AFr) (H : AHeap) : ARes :=
 areg (o' (abox T.ty_api_Code (fr 0) H) ⟨fun v5 H =>
 e' [(1, fr 1), (2, fr 2), (3, fr 3), (4, fr 4), (5, v5)] H⟩)
@[simp] def r1 (fr : AFr) (H : AHeap) : ARes :=
 areg (q' (Ld' 3 (fr 5) H) H ⟨fun v14 H =>
 q' (abuildR (.str [(.int .i64 0), .nils, .nils, (.int .i64 0), (.int .i64 0)] [(0, 3), (3, 1), (4, 1)]) [(0, v14), (1, (fr 1)), (2, (fr 2))]) H ⟨fun v17 H =>
 o' (aallocR T.ty_probe_asked (some (.agg [(.int .i64 0), .nils, .nils, (.int .i64 0), (.int .i64 0)])) H) ⟨fun v12 H =>
 w' (astoreR (some 5) v12 v17 H) ⟨fun _ H =>
 e' [(3, fr 3), (4, fr 4), (12, v12)] H⟩⟩⟩⟩)
@[simp] def r2 (s0 : SpecP) (fr : AFr) (H : AHeap) : ARes :=
 areg (q' (Ld' 5 (fr 12) H) H ⟨fun v18 H =>
 o' (callP false s0 [[none, some 4, some 1, none, none], [some 1]] [v18, (fr 4)] H) ⟨fun v20 H =>
 e' [(3, fr 3), (4, fr 4), (12, fr 12), (13, v20)] H⟩⟩)
@[simp] def r3 (fr : AFr) (H : AHeap) : ARes :=
 areg (q' (bn' .neq (fr 13) (.int .i64 0)) H ⟨fun v22 H =>
 e' [(3, fr 3), (4, fr 4), (12, fr 12), (13, fr 13), (22, v22)] H⟩)
@[simp] def r4 (fr : AFr) (H : AHeap) : ARes :=
 areg (e' [(10, (.bool false)), (11, (fr 13))] H)
@[simp] def r5 (s1 : SpecP) (fr : AFr) (H : AHeap) : ARes :=
 areg (q' (Ld' 5 (fr 12) H) H ⟨fun v24 H =>
 o' (callP false s1 [[none, some 4, some 1, none, none], [none], [some 1]] [v24, (fr 3), (fr 4)] H) ⟨fun v27 H =>
 e' [(10, v27), (11, (.int .i64 0))] H⟩⟩)
@[simp] def body (s0 s1 : SpecP) (fr : AFr) (H : AHeap) : ARes :=
  s' (r0 fr H) ⟨fun fr H =>
 s' (r1 fr H) ⟨fun fr H =>
 s' (s' (r2 s0 fr H) ⟨fun fr H =>
 s' (r3 fr H) ⟨fun fr H =>
 c' (fr 22)
 ⟨s' (r4 fr H) ⟨fun fr H =>
 some (.ret, fr, H)⟩⟩
 ⟨some (.normal, fr, H)⟩⟩⟩) ⟨fun fr H =>
 s' (r5 s1 fr H) ⟨fun fr H =>
 some (.ret, fr, H)⟩⟩⟩⟩
@[simp] def res (fr : AFr) (H : AHeap) : Option (List AV) := res2 (some (fr 10)) (res2 (some (fr 11)) (some []))
end probe_Safe
def probe_Safe (a0 a1 a2 a3 a4 : AV) : Option AV := closeUpR (some [[none], [none]]) (afinR probe_Safe.res (probe_Safe.body probe_asked_looks.spec probe_asked_safe.spec (args0 [a0, a1, a2, a3, a4]) AHeap.empty))
def probe_Safe.spec : List AV → Option AV
  | [a0, a1, a2, a3, a4] => probe_Safe a0 a1 a2 a3 a4
  | _ => none
namespace probe_Spread
def C (s0 s1 : SpecP) : Tab := ((Tab.none.add 44 (.pure false s0)).add 46 (.pure false s1))
@[simp] def r0 (fr : AFr) (H : AHeap) : ARes :=
 areg (o' (abox T.ty_api_Code (fr 0) H) ⟨fun v6 H =>
 e' [(1, fr 1), (2, fr 2), (3, fr 3), (4, fr 4), (5, fr 5), (6, v6)] H⟩)
@[simp] def r1 (fr : AFr) (H : AHeap) : ARes :=
 areg (q' (Ld' 3 (fr 6) H) H ⟨fun v16 H =>
 q' (abuildR (.str [(.int .i64 0), .nils, .nils, (.int .i64 0), (.int .i64 0)] [(0, 3), (3, 1), (4, 1)]) [(0, v16), (1, (fr 1)), (2, (fr 2))]) H ⟨fun v19 H =>
 o' (aallocR T.ty_probe_asked (some (.agg [(.int .i64 0), .nils, .nils, (.int .i64 0), (.int .i64 0)])) H) ⟨fun v14 H =>
 w' (astoreR (some 5) v14 v19 H) ⟨fun _ H =>
 e' [(3, fr 3), (4, fr 4), (5, fr 5), (14, v14)] H⟩⟩⟩⟩)
@[simp] def r2 (s0 : SpecP) (fr : AFr) (H : AHeap) : ARes :=
 areg (q' (Ld' 5 (fr 14) H) H ⟨fun v20 H =>
 o' (callP false s0 [[none, some 4, some 1, none, none], [some 1]] [v20, (fr 5)] H) ⟨fun v22 H =>
 e' [(3, fr 3), (4, fr 4), (5, fr 5), (14, fr 14), (15, v22)] H⟩⟩)
@[simp] def r3 (fr : AFr) (H : AHeap) : ARes :=
 areg (q' (bn' .neq (fr 15) (.int .i64 0)) H ⟨fun v24 H =>
 e' [(3, fr 3), (4, fr 4), (5, fr 5), (14, fr 14), (15, fr 15), (24, v24)] H⟩)
@[simp] def r4 (fr : AFr) (H : AHeap) : ARes :=
 areg (e' [(12, .nils), (13, (fr 15))] H)
@[simp] def r5 (s1 : SpecP) (fr : AFr) (H : AHeap) : ARes :=
 areg (q' (Ld' 5 (fr 14) H) H ⟨fun v26 H =>
 o' (callP false s1 [[none, some 4, some 1, none, none], [none], [none], [some 1]] [v26, (fr 3), (fr 4), (fr 5)] H) ⟨fun v30 H =>
 e' [(12, v30), (13, (.int .i64 0))] H⟩⟩)
@[simp] def body (s0 s1 : SpecP) (fr : AFr) (H : AHeap) : ARes :=
  s' (r0 fr H) ⟨fun fr H =>
 s' (r1 fr H) ⟨fun fr H =>
 s' (s' (r2 s0 fr H) ⟨fun fr H =>
 s' (r3 fr H) ⟨fun fr H =>
 c' (fr 24)
 ⟨s' (r4 fr H) ⟨fun fr H =>
 some (.ret, fr, H)⟩⟩
 ⟨some (.normal, fr, H)⟩⟩⟩) ⟨fun fr H =>
 s' (r5 s1 fr H) ⟨fun fr H =>
 some (.ret, fr, H)⟩⟩⟩⟩
@[simp] def res (fr : AFr) (H : AHeap) : Option (List AV) := res2 (some (fr 12)) (res2 (some (fr 13)) (some []))
end probe_Spread
def probe_Spread (a0 a1 a2 a3 a4 a5 : AV) : Option AV := closeUpR (some [[some 1], [none]]) (afinR probe_Spread.res (probe_Spread.body probe_asked_looks.spec probe_asked_spread.spec (args0 [a0, a1, a2, a3, a4, a5]) AHeap.empty))
def probe_Spread.spec : List AV → Option AV
  | [a0, a1, a2, a3, a4, a5] => probe_Spread a0 a1 a2 a3 a4 a5
  | _ => none
namespace probe_First
def C (s0 s1 : SpecP) : Tab := ((Tab.none.add 44 (.pure false s0)).add 45 (.pure false s1))
@[simp] def r0 (fr : AFr) (H : AHeap) : ARes :=
 areg (o' (abox T.ty_api_Code (fr 0) H) ⟨fun v4 H =>
 e' [(1, fr 1), (2, fr 2), (3, fr 3), (4, v4)] H⟩)
@[simp] def r1 (fr : AFr) (H : AHeap) : ARes :=
 areg (q' (Ld' 3 (fr 4) H) H ⟨fun v15 H =>
 q' (abuildR (.str [(.int .i64 0), .nils, .nils, (.int .i64 0), (.int .i64 0)] [(0, 3), (3, 1), (4, 1)]) [(0, v15), (1, (fr 1)), (2, (fr 2))]) H ⟨fun v18 H =>
 o' (aallocR T.ty_probe_asked (some (.agg [(.int .i64 0), .nils, .nils, (.int .i64 0), (.int .i64 0)])) H) ⟨fun v10 H =>
 w' (astoreR (some 5) v10 v18 H) ⟨fun _ H =>
 e' [(3, fr 3), (4, fr 4), (10, v10)] H⟩⟩⟩⟩)
@[simp] def r2 (s0 : SpecP) (fr : AFr) (H : AHeap) : ARes :=
 areg (q' (Ld' 5 (fr 10) H) H ⟨fun v19 H =>
 o' (callP false s0 [[none, some 4, some 1, none, none], [some 1]] [v19, .nils] H) ⟨fun v20 H =>
 e' [(3, fr 3), (4, fr 4), (10, fr 10), (11, v20)] H⟩⟩)
@[simp] def r3 (fr : AFr) (H : AHeap) : ARes :=
 areg (q' (bn' .neq (fr 11) (.int .i64 0)) H ⟨fun v22 H =>
 e' [(3, fr 3), (4, fr 4), (10, fr 10), (11, fr 11), (22, v22)] H⟩)
@[simp] def r4 (fr : AFr) (H : AHeap) : ARes :=
 areg (e' [(8, .nils), (9, (fr 11))] H)
@[simp] def r5 (fr : AFr) (H : AHeap) : ARes :=
 areg (q' (fa' 0 (fr 4)) H ⟨fun v24 H =>
 q' (ld' v24 H) H ⟨fun v25 H =>
 q' (fa' 1 (fr 4)) H ⟨fun v26 H =>
 q' (ld' v26 H) H ⟨fun v27 H =>
 q' (alenR .sl v27) H ⟨fun v28 H =>
 q' (bn' .add v25 v28) H ⟨fun v29 H =>
 e' [(3, fr 3), (10, fr 10), (12, v29)] H⟩⟩⟩⟩⟩⟩)
@[simp] def r6 (fr : AFr) (H : AHeap) : ARes :=
 areg (q' (bn' .lss (fr 3) (.int .i64 1)) H ⟨fun v31 H =>
 G' v31 false ⟨some (fr 3)⟩ H ⟨fun v33 H =>
 G' v31 false ⟨bn' .gtr v33 (.int .i64 2)⟩ H ⟨fun v34 H =>
 q' (apick v31 (.bool true) v34) H ⟨fun v35 H =>
 G' v35 false ⟨some (fr 12)⟩ H ⟨fun v37 H =>
 G' v35 false ⟨bn' .gtr v37 (.int .i64 60)⟩ H ⟨fun v38 H =>
 q' (apick v35 (.bool true) v38) H ⟨fun v39 H =>
 e' [(3, fr 3), (10, fr 10), (12, fr 12), (39, v39)] H⟩⟩⟩⟩⟩⟩⟩)
@[simp] def r7 (fr : AFr) (H : AHeap) : ARes :=
 areg (e' [(8, .nils), (9, (.int .i64 1))] H)
@[simp] def r8 (fr : AFr) (H : AHeap) : ARes :=
 areg (e' [(3, fr 3), (10, fr 10), (12, fr 12), (40, (fr 12)), (41, (.int .i64 0))] H)
@[simp] def r9 (fr : AFr) (H : AHeap) : ARes :=
 areg (q' (bn' .lss (fr 41) (fr 40)) H ⟨fun v42 H =>
 e' [(3, fr 3), (10, fr 10), (12, fr 12), (40, fr 40), (41, fr 41), (42, v42)] H⟩)
@[simp] def r10 (fr : AFr) (H : AHeap) : ARes :=
 areg (e' [(3, fr 3), (10, fr 10), (12, fr 12), (13, (fr 41)), (40, fr 40), (41, fr 41)] H)
@[simp] def r11 (fr : AFr) (H : AHeap) : ARes :=
 areg (q' (bn' .eql (fr 3) (.int .i64 1)) H ⟨fun v45 H =>
 e' [(3, fr 3), (10, fr 10), (12, fr 12), (13, fr 13), (40, fr 40), (41, fr 41), (45, v45)] H⟩)
@[simp] def r12 (s1 : SpecP) (fr : AFr) (H : AHeap) : ARes :=
 areg (q' (Ld' 5 (fr 10) H) H ⟨fun v46 H =>
 o' (abuildSliceR (some ⟨T.ty_int, 1, 8, [(.int .i64 0)]⟩) 1 [(0, (fr 13))] H) ⟨fun v48 H =>
 o' (callP false s1 [[none, some 4, some 1, none, none], [none], [some 1]] [v46, (W32 0#32), v48] H) ⟨fun v49 H =>
 q' (aun .not v49) H ⟨fun v50 H =>
 e' [(3, fr 3), (10, fr 10), (12, fr 12), (13, fr 13), (40, fr 40), (41, fr 41), (50, v50)] H⟩⟩⟩⟩)
@[simp] def r13 (fr : AFr) (H : AHeap) : ARes :=
 areg (o' (abuildSliceR (some ⟨T.ty_int, 1, 8, [(.int .i64 0)]⟩) 1 [(0, (fr 13))] H) ⟨fun v52 H =>
 e' [(8, v52), (9, (.int .i64 0))] H⟩)
@[simp] def r14 (fr : AFr) (H : AHeap) : ARes :=
 areg (q' (bn' .add (fr 13) (.int .i64 1)) H ⟨fun v54 H =>
 e' [(3, fr 3), (10, fr 10), (12, fr 12), (13, fr 13), (14, v54), (40, fr 40), (41, fr 41)] H⟩)
@[simp] def r15 (fr : AFr) (H : AHeap) : ARes :=
 areg (q' (bn' .lss (fr 14) (fr 12)) H ⟨fun v57 H =>
 e' [(3, fr 3), (10, fr 10), (12, fr 12), (13, fr 13), (14, fr 14), (40, fr 40), (41, fr 41), (57, v57)] H⟩)
@[simp] def r17 (s1 : SpecP) (fr : AFr) (H : AHeap) : ARes :=
 areg (q' (Ld' 5 (fr 10) H) H ⟨fun v60 H =>
 o' (abuildSliceR (some ⟨T.ty_int, 1, 8, [(.int .i64 0)]⟩) 2 [(0, (fr 13)), (1, (fr 14))] H) ⟨fun v63 H =>
 o' (callP false s1 [[none, some 4, some 1, none, none], [none], [some 1]] [v60, (W32 0#32), v63] H) ⟨fun v64 H =>
 q' (aun .not v64) H ⟨fun v65 H =>
 e' [(3, fr 3), (10, fr 10), (12, fr 12), (13, fr 13), (14, fr 14), (40, fr 40), (41, fr 41), (65, v65)] H⟩⟩⟩⟩)
@[simp] def r18 (fr : AFr) (H : AHeap) : ARes :=
 areg (o' (abuildSliceR (some ⟨T.ty_int, 1, 8, [(.int .i64 0)]⟩) 2 [(0, (fr 13)), (1, (fr 14))] H) ⟨fun v68 H =>
 e' [(8, v68), (9, (.int .i64 0))] H⟩)
@[simp] def r16 (fr : AFr) (H : AHeap) : ARes :=
 areg (q' (bn' .add (fr 14) (.int .i64 1)) H ⟨fun v59 H =>
 e' [(3, fr 3), (10, fr 10), (12, fr 12), (13, fr 13), (14, v59), (40, fr 40), (41, fr 41)] H⟩)
@[simp] def r19 (fr : AFr) (H : AHeap) : ARes :=
 areg (q' (bn' .add (fr 41) (.int .i64 1)) H ⟨fun v69 H =>
 e' [(3, fr 3), (10, fr 10), (12, fr 12), (40, fr 40), (41, v69)] H⟩)
@[simp] def r20 (fr : AFr) (H : AHeap) : ARes :=
 areg (e' [(8, .nils), (9, (.int .i64 0))] H)
def l1 (s0 s1 : SpecP) (fr : AFr) (H : AHeap) : ARes :=
  s' (s' (r15 fr H) ⟨fun fr H =>
 c' (fr 57)
 ⟨some (.normal, fr, H)⟩
 ⟨some (.exit 2, fr, H)⟩⟩) ⟨fun fr H =>
 s' (aexit 3 (s' (r17 s1 fr H) ⟨fun fr H =>
 c' (fr 65)
 ⟨s' (r18 fr H) ⟨fun fr H =>
 some (.ret, fr, H)⟩⟩
 ⟨some (.normal, fr, H)⟩⟩)) ⟨fun fr H =>
 r16 fr H⟩⟩
def l0 (s0 s1 : SpecP) (fr : AFr) (H : AHeap) : ARes :=
  s' (r9 fr H) ⟨fun fr H =>
 s' (c' (fr 42)
 ⟨some (.normal, fr, H)⟩
 ⟨some (.exit 0, fr, H)⟩) ⟨fun fr H =>
 s' (aexit 1 (s' (r10 fr H) ⟨fun fr H =>
 s' (s' (r11 fr H) ⟨fun fr H =>
 c' (fr 45)
 ⟨s' (s' (r12 s1 fr H) ⟨fun fr H =>
 c' (fr 50)
 ⟨s' (r13 fr H) ⟨fun fr H =>
 some (.ret, fr, H)⟩⟩
 ⟨some (.normal, fr, H)⟩⟩) ⟨fun fr H =>
 some (.exit 1, fr, H)⟩⟩
 ⟨some (.normal, fr, H)⟩⟩) ⟨fun fr H =>
 s' (r14 fr H) ⟨fun fr H =>
  aexit 2 (aloop (l1 s0 s1) fr H)⟩⟩⟩)) ⟨fun fr H =>
 r19 fr H⟩⟩⟩
@[simp] def body (s0 s1 : SpecP) (fr : AFr) (H : AHeap) : ARes :=
  s' (r0 fr H) ⟨fun fr H =>
 s' (r1 fr H) ⟨fun fr H =>
 s' (s' (r2 s0 fr H) ⟨fun fr H =>
 s' (r3 fr H) ⟨fun fr H =>
 c' (fr 22)
 ⟨s' (r4 fr H) ⟨fun fr H =>
 some (.ret, fr, H)⟩⟩
 ⟨some (.normal, fr, H)⟩⟩⟩) ⟨fun fr H =>
 s' (r5 fr H) ⟨fun fr H =>
 s' (s' (r6 fr H) ⟨fun fr H =>
 c' (fr 39)
 ⟨s' (r7 fr H) ⟨fun fr H =>
 some (.ret, fr, H)⟩⟩
 ⟨some (.normal, fr, H)⟩⟩) ⟨fun fr H =>
 s' (s' (r8 fr H) ⟨fun fr H =>
  aexit 0 (aloop (l0 s0 s1) fr H)⟩) ⟨fun fr H =>
 s' (r20 fr H) ⟨fun fr H =>
 some (.ret, fr, H)⟩⟩⟩⟩⟩⟩⟩
@[simp] def res (fr : AFr) (H : AHeap) : Option (List AV) := res2 (some (fr 8)) (res2 (some (fr 9)) (some []))
end probe_First
def probe_First (a0 a1 a2 a3 : AV) : Option AV := closeUpR (some [[some 1], [none]]) (afinR probe_First.res (probe_First.body probe_asked_looks.spec probe_asked_safe.spec (args0 [a0, a1, a2, a3]) AHeap.empty))
def probe_First.spec : List AV → Option AV
  | [a0, a1, a2, a3] => probe_First a0 a1 a2 a3
  | _ => none
end
end Go.Abs
