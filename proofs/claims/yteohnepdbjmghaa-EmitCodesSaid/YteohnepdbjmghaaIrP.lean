/-
  That the program's functions are these. Printed by gen.py.
-/
import Derived.Test.YteohnepdbjmghaaIrF
import Derived.Test.YteohnepdbjmghaaLoP
set_option linter.unusedSimpArgs false
set_option linter.unusedVariables false
namespace Go.Abs
namespace ref19_Own
noncomputable def code : Code := match Go.Proofs.Try.f33.body with | some c => c | none => .skip
def K : Nat → List Nat
  | 0 => [1, 2]
  | 1 => [2]
  | _ => []
noncomputable def CC : Tab := C
theorem CS : CC.Sound Go.Proofs.Try.prog := Tab.Sound.none
theorem body_eq (fr : AFr) (H : AHeap) : acode Go.Proofs.Try.prog C (draws Go.Proofs.Try.prog C) K code fr H = body fr H := by kernel_rfl
theorem callable : Callable Go.Proofs.Try.prog 33 := fun args w => Go.Proofs.Try.call33 args w
theorem hf : Go.Proofs.Try.prog.funcs[33]? = some Go.Proofs.Try.f33 := Go.Proofs.Try.func33
theorem hb : Go.Proofs.Try.f33.body = some code := by kernel_rfl
theorem hok : codeOk Go.Proofs.Try.f33.ntmps code = true := by kernel_rfl
theorem run_eq (a0 : AV) : pureOf Go.Proofs.Try.prog CC (draws Go.Proofs.Try.prog CC) K Go.Proofs.Try.f33 code [a0] = ref19_Own a0 := by
  unfold pureOf arun
  rw [if_pos (show [a0].length ≤ Go.Proofs.Try.f33.ntmps from (by decide +kernel : 1 ≤ Go.Proofs.Try.f33.ntmps))]
  unfold afin
  rw [show acode Go.Proofs.Try.prog CC (draws Go.Proofs.Try.prog CC) K code (args0 [a0]) AHeap.empty = body (args0 [a0]) AHeap.empty from body_eq _ _]
  kernel_rfl
theorem sound : Sound Go.Proofs.Try.prog 33 (.pure false spec) := by
  refine (sound_pure CS Mixed (draws _ _) K hf hb hok callable).less fun args r h => ?_
  unfold spec at h
  split at h
  · rw [run_eq]; exact h
  · cases h
end ref19_Own
namespace ref19_Takes
noncomputable def code : Code := match Go.Proofs.Try.f74.body with | some c => c | none => .skip
def K : Nat → List Nat
  | 0 => [0]
  | 1 => [0, 8]
  | 2 => [2]
  | 3 => [18]
  | 4 => [2]
  | 5 => [2]
  | _ => []
noncomputable def CC : Tab := C
theorem CS : CC.Sound Go.Proofs.Try.prog := Tab.Sound.none
theorem body_eq (fr : AFr) (H : AHeap) : acode Go.Proofs.Try.prog C (draws Go.Proofs.Try.prog C) K code fr H = body fr H := by kernel_rfl
theorem callable : Callable Go.Proofs.Try.prog 74 := fun args w => Go.Proofs.Try.call74 args w
theorem hf : Go.Proofs.Try.prog.funcs[74]? = some Go.Proofs.Try.f74 := Go.Proofs.Try.func74
theorem hb : Go.Proofs.Try.f74.body = some code := by kernel_rfl
theorem hok : codeOk Go.Proofs.Try.f74.ntmps code = true := by kernel_rfl
theorem run_eq (a0 : AV) : pureOf Go.Proofs.Try.prog CC (draws Go.Proofs.Try.prog CC) K Go.Proofs.Try.f74 code [a0] = ref19_Takes a0 := by
  unfold pureOf arun
  rw [if_pos (show [a0].length ≤ Go.Proofs.Try.f74.ntmps from (by decide +kernel : 1 ≤ Go.Proofs.Try.f74.ntmps))]
  unfold afin
  rw [show acode Go.Proofs.Try.prog CC (draws Go.Proofs.Try.prog CC) K code (args0 [a0]) AHeap.empty = body (args0 [a0]) AHeap.empty from body_eq _ _]
  kernel_rfl
theorem sound : Sound Go.Proofs.Try.prog 74 (.pure false spec) := by
  refine (sound_pure CS Mixed (draws _ _) K hf hb hok callable).less fun args r h => ?_
  unfold spec at h
  split at h
  · rw [run_eq]; exact h
  · cases h
end ref19_Takes
namespace ref19_Can
noncomputable def code : Code := match Go.Proofs.Try.f82.body with | some c => c | none => .skip
def K : Nat → List Nat
  | 0 => [1]
  | 1 => [1, 21]
  | 2 => [2]
  | 3 => [1, 3]
  | 4 => [1, 3, 26]
  | 6 => [1, 3, 4]
  | 7 => [1, 3, 4, 5, 6]
  | 8 => [1, 3, 4, 96]
  | 9 => [2]
  | 10 => [1, 3, 124]
  | 11 => [2]
  | 5 => [1, 3]
  | 12 => [1, 7]
  | 13 => [1, 7, 129]
  | 15 => [1, 7, 151]
  | 16 => [2]
  | 14 => [1, 7]
  | 17 => [2]
  | _ => []
noncomputable def CC : Tab := C ref19_Takes.spec
theorem CS : CC.Sound Go.Proofs.Try.prog := (Tab.Sound.none.add ref19_Takes.sound)
theorem body_eq (s0 : SpecP) (fr : AFr) (H : AHeap) : acode Go.Proofs.Try.prog (C s0) (draws Go.Proofs.Try.prog (C s0)) K code fr H = body s0 fr H := by kernel_rfl
theorem callable : Callable Go.Proofs.Try.prog 82 := fun args w => Go.Proofs.Try.call82 args w
theorem hf : Go.Proofs.Try.prog.funcs[82]? = some Go.Proofs.Try.f82 := Go.Proofs.Try.func82
theorem hb : Go.Proofs.Try.f82.body = some code := by kernel_rfl
theorem hok : codeOk Go.Proofs.Try.f82.ntmps code = true := by kernel_rfl
theorem run_eq (a0 : AV) : pureOf Go.Proofs.Try.prog CC (draws Go.Proofs.Try.prog CC) K Go.Proofs.Try.f82 code [a0] = ref19_Can a0 := by
  unfold pureOf arun
  rw [if_pos (show [a0].length ≤ Go.Proofs.Try.f82.ntmps from (by decide +kernel : 1 ≤ Go.Proofs.Try.f82.ntmps))]
  unfold afin
  rw [show acode Go.Proofs.Try.prog CC (draws Go.Proofs.Try.prog CC) K code (args0 [a0]) AHeap.empty = body ref19_Takes.spec (args0 [a0]) AHeap.empty from body_eq ref19_Takes.spec _ _]
  kernel_rfl
theorem sound : Sound Go.Proofs.Try.prog 82 (.pure false spec) := by
  refine (sound_pure CS Mixed (draws _ _) K hf hb hok callable).less fun args r h => ?_
  unfold spec at h
  split at h
  · rw [run_eq]; exact h
  · cases h
end ref19_Can
end Go.Abs
