/-
  That the program's functions are these. Printed by gen.py.
-/
import Derived.Test.YteohnepdbjmghaaTh2F
import Derived.Test.YteohnepdbjmghaaLoP
import Derived.Test.YteohnepdbjmghaaSoP
set_option linter.unusedSimpArgs false
set_option linter.unusedVariables false
namespace Go.Abs
namespace slices_Compact_int
noncomputable def code : Code := match Go.Proofs.Try.f62.body with | some c => c | none => .skip
def K : Nat → List Nat
  | 0 => [0]
  | 1 => [0, 8]
  | 2 => [2]
  | 3 => [0, 3]
  | 4 => [0, 3, 13]
  | 6 => [0, 3, 25]
  | 7 => [0, 3, 4]
  | 8 => [0, 3, 4, 5]
  | 9 => [0, 3, 4, 5, 32]
  | 11 => [0, 3, 4, 5, 44]
  | 12 => [0, 3, 4, 5]
  | 13 => [0, 3, 4, 5]
  | 10 => [0, 3, 4, 5]
  | 14 => [0, 3]
  | 15 => [2]
  | 5 => [0, 3]
  | 16 => [2]
  | _ => []
noncomputable def CC : Tab := C
theorem CS : CC.Sound Go.Proofs.Try.prog := Tab.Sound.none
theorem body_eq (fr : AFr) (H : AHeap) : acode Go.Proofs.Try.prog C (draws Go.Proofs.Try.prog C) K code fr H = body fr H := by kernel_rfl
theorem callable : Callable Go.Proofs.Try.prog 62 := fun args w => Go.Proofs.Try.call62 args w
theorem hf : Go.Proofs.Try.prog.funcs[62]? = some Go.Proofs.Try.f62 := Go.Proofs.Try.func62
theorem hb : Go.Proofs.Try.f62.body = some code := by kernel_rfl
theorem hok : codeOk Go.Proofs.Try.f62.ntmps code = true := by kernel_rfl
theorem run_eq (a0 : AV) (H : AHeap) : refOf Go.Proofs.Try.prog CC (draws Go.Proofs.Try.prog CC) K Go.Proofs.Try.f62 code [a0] H = slices_Compact_int a0 H := by
  unfold refOf arun
  rw [if_pos (show [a0].length ≤ Go.Proofs.Try.f62.ntmps from (by decide +kernel : 1 ≤ Go.Proofs.Try.f62.ntmps))]
  unfold afin
  rw [show acode Go.Proofs.Try.prog CC (draws Go.Proofs.Try.prog CC) K code (args0 [a0]) H = body (args0 [a0]) H from body_eq _ _]
  kernel_rfl
theorem sound : Sound Go.Proofs.Try.prog 62 (.ref [false] spec) := by
  refine (sound_ref CS Mixed (draws _ _) K hf hb hok callable [false]).lessR fun args H r h => ?_
  unfold spec at h
  split at h
  · rw [run_eq]; exact h
  · cases h
end slices_Compact_int
namespace thumb_Reads
noncomputable def code : Code := match Go.Proofs.Try.f18.body with | some c => c | none => .skip
def K : Nat → List Nat
  | 0 => [1]
  | 1 => [1, 6]
  | 2 => [2]
  | 3 => [1, 3]
  | 4 => [1, 3, 8]
  | 5 => [1, 3, 8, 9]
  | 6 => [1, 3, 8, 9]
  | 7 => [1, 3, 8, 9]
  | 8 => [3]
  | 9 => [1, 3, 8, 16]
  | 10 => [1, 3, 8, 16]
  | 11 => [1, 3, 8, 16]
  | 12 => [3]
  | 13 => [1, 3, 8, 23]
  | 14 => [1, 3, 8, 23]
  | 15 => [1, 3, 8, 23]
  | 16 => [3]
  | 17 => [1, 3, 8, 32]
  | 18 => [1, 3, 8, 32]
  | 19 => [1, 3, 8, 32]
  | 20 => [3]
  | 21 => [1, 3, 8, 39]
  | 22 => [3]
  | 23 => [1, 3, 8, 46]
  | 24 => [3]
  | 25 => [1, 3, 55]
  | 26 => [1, 3]
  | 27 => [1, 3, 67]
  | 28 => [3]
  | 29 => [3]
  | 30 => [2]
  | _ => []
noncomputable def CC : Tab := C thumb_can.spec slices_Sort_int.spec slices_Compact_int.spec
theorem CS : CC.Sound Go.Proofs.Try.prog := (((Tab.Sound.none.add thumb_can.sound).add slices_Sort_int.sound).add slices_Compact_int.sound)
theorem body_eq (s0 : SpecP) (s1 s2 : SpecM) (fr : AFr) (H : AHeap) : acode Go.Proofs.Try.prog (C s0 s1 s2) (draws Go.Proofs.Try.prog (C s0 s1 s2)) K code fr H = body s0 s1 s2 fr H := by kernel_rfl
theorem callable : Callable Go.Proofs.Try.prog 18 := fun args w => Go.Proofs.Try.call18 args w
theorem hf : Go.Proofs.Try.prog.funcs[18]? = some Go.Proofs.Try.f18 := Go.Proofs.Try.func18
theorem hb : Go.Proofs.Try.f18.body = some code := by kernel_rfl
theorem hok : codeOk Go.Proofs.Try.f18.ntmps code = true := by kernel_rfl
theorem run_eq (a0 : AV) : pureOf Go.Proofs.Try.prog CC (draws Go.Proofs.Try.prog CC) K Go.Proofs.Try.f18 code [a0] = thumb_Reads a0 := by
  unfold pureOf arun
  rw [if_pos (show [a0].length ≤ Go.Proofs.Try.f18.ntmps from (by decide +kernel : 1 ≤ Go.Proofs.Try.f18.ntmps))]
  unfold afin
  rw [show acode Go.Proofs.Try.prog CC (draws Go.Proofs.Try.prog CC) K code (args0 [a0]) AHeap.empty = body thumb_can.spec slices_Sort_int.spec slices_Compact_int.spec (args0 [a0]) AHeap.empty from body_eq thumb_can.spec slices_Sort_int.spec slices_Compact_int.spec _ _]
  kernel_rfl
theorem sound : Sound Go.Proofs.Try.prog 18 (.pure false spec) := by
  refine (sound_pure CS Mixed (draws _ _) K hf hb hok callable).less fun args r h => ?_
  unfold spec at h
  split at h
  · rw [run_eq]; exact h
  · cases h
end thumb_Reads
end Go.Abs
