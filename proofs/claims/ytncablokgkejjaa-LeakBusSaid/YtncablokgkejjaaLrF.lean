/-
  The functions, as they are over abstract values. Printed by gen.py.
-/
import Derived.Test.YtncablokgkejjaaCrF
import Derived.Test.YtncablokgkejjaaLoF
set_option linter.unusedVariables false
namespace Go.Abs
noncomputable section
namespace ref07_Control
def C : Tab := Tab.none
@[simp] def r0 (fr : AFr) (H : AHeap) : ARes :=
 areg (@opi _ (abox T.ty_api_Leak (fr 0) H) ⟨fun v2 H =>
 @opi _ (abox T.ty_api_Leak (fr 1) H) ⟨fun v3 H =>
 some (AFr.al [(2, v2), (3, v3)], H)⟩⟩)
@[simp] def r1 (fr : AFr) (H : AHeap) : ARes :=
 areg (@opi _ (lift (afieldAddrR (some 0) (fr 2)) H) ⟨fun v5 H =>
 @opi _ (lift (aloadR (some none) v5 H) H) ⟨fun v6 H =>
 @opi _ (lift (afieldAddrR (some 0) (fr 3)) H) ⟨fun v7 H =>
 @opi _ (lift (aloadR (some none) v7 H) H) ⟨fun v8 H =>
 @opi _ (lift (abinR .x .eql v6 v8) H) ⟨fun v9 H =>
 @opi _ (@gdi (gw v9 true) ⟨lift (afieldAddrR (some 1) (fr 2)) H⟩ H) ⟨fun v11 H =>
 @opi _ (@gdi (gw v9 true) ⟨lift (aloadR (some none) v11 H) H⟩ H) ⟨fun v12 H =>
 @opi _ (@gdi (gw v9 true) ⟨lift (afieldAddrR (some 1) (fr 3)) H⟩ H) ⟨fun v13 H =>
 @opi _ (@gdi (gw v9 true) ⟨lift (aloadR (some none) v13 H) H⟩ H) ⟨fun v14 H =>
 @opi _ (@gdi (gw v9 true) ⟨lift (abinR .x .eql v12 v14) H⟩ H) ⟨fun v15 H =>
 @opi _ (lift (apick v9 v15 (.bool false)) H) ⟨fun v16 H =>
 @opi _ (@gdi (gw v16 true) ⟨lift (afieldAddrR (some 7) (fr 2)) H⟩ H) ⟨fun v18 H =>
 @opi _ (@gdi (gw v16 true) ⟨lift (aloadR (some none) v18 H) H⟩ H) ⟨fun v19 H =>
 @opi _ (@gdi (gw v16 true) ⟨lift (afieldAddrR (some 7) (fr 3)) H⟩ H) ⟨fun v20 H =>
 @opi _ (@gdi (gw v16 true) ⟨lift (aloadR (some none) v20 H) H⟩ H) ⟨fun v21 H =>
 @opi _ (@gdi (gw v16 true) ⟨lift (abinR .x .eql v19 v21) H⟩ H) ⟨fun v22 H =>
 @opi _ (lift (apick v16 v22 (.bool false)) H) ⟨fun v23 H =>
 @opi _ (@gdi (gw v23 true) ⟨lift (afieldAddrR (some 8) (fr 2)) H⟩ H) ⟨fun v25 H =>
 @opi _ (@gdi (gw v23 true) ⟨lift (aloadR (some none) v25 H) H⟩ H) ⟨fun v26 H =>
 @opi _ (@gdi (gw v23 true) ⟨lift (afieldAddrR (some 8) (fr 3)) H⟩ H) ⟨fun v27 H =>
 @opi _ (@gdi (gw v23 true) ⟨lift (aloadR (some none) v27 H) H⟩ H) ⟨fun v28 H =>
 @opi _ (@gdi (gw v23 true) ⟨lift (abinR .b .eql v26 v28) H⟩ H) ⟨fun v29 H =>
 @opi _ (lift (apick v23 v29 (.bool false)) H) ⟨fun v30 H =>
 @opi _ (@gdi (gw v30 true) ⟨lift (afieldAddrR (some 9) (fr 2)) H⟩ H) ⟨fun v32 H =>
 @opi _ (@gdi (gw v30 true) ⟨lift (aloadR (some none) v32 H) H⟩ H) ⟨fun v33 H =>
 @opi _ (@gdi (gw v30 true) ⟨lift (afieldAddrR (some 9) (fr 3)) H⟩ H) ⟨fun v34 H =>
 @opi _ (@gdi (gw v30 true) ⟨lift (aloadR (some none) v34 H) H⟩ H) ⟨fun v35 H =>
 @opi _ (@gdi (gw v30 true) ⟨lift (abinR .b .eql v33 v35) H⟩ H) ⟨fun v36 H =>
 @opi _ (lift (apick v30 v36 (.bool false)) H) ⟨fun v37 H =>
 some (AFr.al [(4, v37)], H)⟩⟩⟩⟩⟩⟩⟩⟩⟩⟩⟩⟩⟩⟩⟩⟩⟩⟩⟩⟩⟩⟩⟩⟩⟩⟩⟩⟩⟩)
@[simp] def body (fr : AFr) (H : AHeap) : ARes :=
  @aseqi (r0 fr H) ⟨fun fr H =>
 @aseqi (r1 fr H) ⟨fun fr H =>
 some (.ret, fr, H)⟩⟩
@[simp] def res (fr : AFr) (H : AHeap) : Option (List AV) := res2 (some (fr 4)) (some [])
end ref07_Control
def ref07_Control (a0 a1 : AV) : Option AV := closeUpR (some [[none]]) (afinR ref07_Control.res (ref07_Control.body (args0 [a0, a1]) AHeap.empty))
def ref07_Control.spec : List AV → Option AV
  | [a0, a1] => ref07_Control a0 a1
  | _ => none
end
end Go.Abs
