/-
  That the program's functions are these. Printed by gen.py.
-/
import Derived.Test.YtncablokgkejjaaRrF
import Derived.Test.YtncablokgkejjaaLoP
import Derived.Test.YtncablokgkejjaaLrP
set_option linter.unusedSimpArgs false
set_option linter.unusedVariables false
namespace Go.Abs
namespace ref08_Same
noncomputable def code : Code := match Go.Proofs.Try.f40.body with | some c => c | none => .skip
def K : Nat → List Nat
  | 0 => [2, 3]
  | 1 => [2, 3, 41]
  | 2 => [4]
  | 3 => [2, 3, 5]
  | 4 => [2, 3, 5, 46]
  | 6 => [2, 3, 5, 59]
  | 7 => [4]
  | 5 => [2, 3, 5]
  | 8 => [4]
  | _ => []
end ref08_Same
namespace ref08_Road
noncomputable def code : Code := match Go.Proofs.Try.f45.body with | some c => c | none => .skip
def K : Nat → List Nat
  | 0 => [0, 1]
  | 1 => [0, 1, 10]
  | 2 => [4]
  | 3 => [0, 1, 5]
  | 4 => [0, 1, 5, 14]
  | 6 => [0, 1, 5, 26]
  | 7 => [4]
  | 5 => [0, 1, 5]
  | 8 => [4]
  | _ => []
noncomputable def CC : Tab := C ref07_Control.spec
theorem CS : CC.Sound Go.Proofs.Try.prog := (Tab.Sound.none.add ref07_Control.sound)
theorem body_eq (s0 : SpecP) (fr : AFr) (H : AHeap) : acode Go.Proofs.Try.prog (C s0) (draws Go.Proofs.Try.prog (C s0)) K code fr H = body s0 fr H := by kernel_rfl
theorem callable : Callable Go.Proofs.Try.prog 45 := fun args w => Go.Proofs.Try.call45 args w
theorem hf : Go.Proofs.Try.prog.funcs[45]? = some Go.Proofs.Try.f45 := Go.Proofs.Try.func45
theorem hb : Go.Proofs.Try.f45.body = some code := by kernel_rfl
theorem hok : codeOk Go.Proofs.Try.f45.ntmps code = true := by kernel_rfl
theorem run_eq (a0 a1 : AV) : pureOf Go.Proofs.Try.prog CC (draws Go.Proofs.Try.prog CC) K Go.Proofs.Try.f45 code [a0, a1] = ref08_Road a0 a1 := by
  unfold pureOf arun
  rw [if_pos (show [a0, a1].length ≤ Go.Proofs.Try.f45.ntmps from (by decide +kernel : 2 ≤ Go.Proofs.Try.f45.ntmps))]
  unfold afin
  rw [show acode Go.Proofs.Try.prog CC (draws Go.Proofs.Try.prog CC) K code (args0 [a0, a1]) AHeap.empty = body ref07_Control.spec (args0 [a0, a1]) AHeap.empty from body_eq ref07_Control.spec _ _]
  kernel_rfl
theorem sound : Sound Go.Proofs.Try.prog 45 (.pure false spec) := by
  refine (sound_pure CS Mixed (draws _ _) K hf hb hok callable).less fun args r h => ?_
  unfold spec at h
  split at h
  · rw [run_eq]; exact h
  · cases h
end ref08_Road
namespace ref08_Cycles
noncomputable def code : Code := match Go.Proofs.Try.f47.body with | some c => c | none => .skip
def K : Nat → List Nat
  | 0 => [0]
  | 1 => [0, 3]
  | 2 => [0, 3, 4]
  | 3 => [0, 3, 4, 10]
  | 5 => [0, 3, 4, 5]
  | 6 => [0, 3, 4, 5]
  | 7 => [0, 3, 4, 5, 28]
  | 8 => [0, 3, 4]
  | 9 => [0, 3, 4, 60]
  | 10 => [0, 3, 4]
  | 4 => [0, 3, 4]
  | 11 => [2]
  | _ => []
noncomputable def CC : Tab := C ref02_Take.spec
theorem CS : CC.Sound Go.Proofs.Try.prog := (Tab.Sound.none.add ref02_Take.sound)
theorem body_eq (s0 : SpecP) (fr : AFr) (H : AHeap) : acode Go.Proofs.Try.prog (C s0) (draws Go.Proofs.Try.prog (C s0)) K code fr H = body s0 fr H := by kernel_rfl
theorem callable : Callable Go.Proofs.Try.prog 47 := fun args w => Go.Proofs.Try.call47 args w
theorem hf : Go.Proofs.Try.prog.funcs[47]? = some Go.Proofs.Try.f47 := Go.Proofs.Try.func47
theorem hb : Go.Proofs.Try.f47.body = some code := by kernel_rfl
theorem hok : codeOk Go.Proofs.Try.f47.ntmps code = true := by kernel_rfl
theorem run_eq (a0 : AV) : pureOf Go.Proofs.Try.prog CC (draws Go.Proofs.Try.prog CC) K Go.Proofs.Try.f47 code [a0] = ref08_Cycles a0 := by
  unfold pureOf arun
  rw [if_pos (show [a0].length ≤ Go.Proofs.Try.f47.ntmps from (by decide +kernel : 1 ≤ Go.Proofs.Try.f47.ntmps))]
  unfold afin
  rw [show acode Go.Proofs.Try.prog CC (draws Go.Proofs.Try.prog CC) K code (args0 [a0]) AHeap.empty = body ref02_Take.spec (args0 [a0]) AHeap.empty from body_eq ref02_Take.spec _ _]
  kernel_rfl
theorem sound : Sound Go.Proofs.Try.prog 47 (.pure false spec) := by
  refine (sound_pure CS Mixed (draws _ _) K hf hb hok callable).less fun args r h => ?_
  unfold spec at h
  split at h
  · rw [run_eq]; exact h
  · cases h
end ref08_Cycles
end Go.Abs
