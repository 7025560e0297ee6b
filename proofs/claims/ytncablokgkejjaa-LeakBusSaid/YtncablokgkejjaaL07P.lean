/-
  That the program's functions are these. Printed by gen.py.
-/
import Derived.Test.YtncablokgkejjaaL07F
import Derived.Test.YtncablokgkejjaaLoP
import Derived.Test.YtncablokgkejjaaLeP
import Derived.Test.YtncablokgkejjaaLrP
import Derived.Test.YtncablokgkejjaaCoP
set_option linter.unusedSimpArgs false
set_option linter.unusedVariables false
namespace Go.Abs
namespace law07_lives
noncomputable def code : Code := match Go.Proofs.Try.f29.body with | some c => c | none => .skip
def K : Nat → List Nat
  | 0 => []
  | 1 => [2, 4]
  | 2 => [0]
  | _ => []
noncomputable def CC : Tab := C mem_New.spec leak_Step.spec
theorem CS : CC.Sound Go.Proofs.Try.prog := ((Tab.Sound.none.add mem_New.sound).add leak_Step.sound)
theorem body_eq (s0 s1 : SpecM) (fr : AFr) (H : AHeap) : acode Go.Proofs.Try.prog (C s0 s1) (draws Go.Proofs.Try.prog (C s0 s1)) K code fr H = body s0 s1 fr H := by kernel_rfl
theorem callable : Callable Go.Proofs.Try.prog 29 := fun args w => Go.Proofs.Try.call29 args w
theorem hf : Go.Proofs.Try.prog.funcs[29]? = some Go.Proofs.Try.f29 := Go.Proofs.Try.func29
theorem hb : Go.Proofs.Try.f29.body = some code := by kernel_rfl
theorem hok : codeOk Go.Proofs.Try.f29.ntmps code = true := by kernel_rfl
theorem run_eq : pureOf Go.Proofs.Try.prog CC (draws Go.Proofs.Try.prog CC) K Go.Proofs.Try.f29 code [] = law07_lives := by
  unfold pureOf arun
  rw [if_pos (show [].length ≤ Go.Proofs.Try.f29.ntmps from (by decide +kernel : 0 ≤ Go.Proofs.Try.f29.ntmps))]
  unfold afin
  rw [show acode Go.Proofs.Try.prog CC (draws Go.Proofs.Try.prog CC) K code (args0 []) AHeap.empty = body mem_New.spec leak_Step.spec (args0 []) AHeap.empty from body_eq mem_New.spec leak_Step.spec _ _]
  kernel_rfl
theorem sound : Sound Go.Proofs.Try.prog 29 (.pure false spec) := by
  refine (sound_pure CS Mixed (draws _ _) K hf hb hok callable).less fun args r h => ?_
  unfold spec at h
  split at h
  · rw [run_eq]; exact h
  · cases h
end law07_lives
namespace law07_LeakBus
noncomputable def code : Code := match Go.Proofs.Try.f6.body with | some c => c | none => .skip
def K : Nat → List Nat
  | 0 => [0]
  | 1 => [0, 3]
  | 2 => [0, 3, 4]
  | 3 => [0, 3, 4, 21]
  | 5 => [0, 3, 4]
  | 4 => [0, 3, 4]
  | 6 => [0, 3, 5]
  | 7 => [0, 3, 5, 47]
  | 8 => [2]
  | 9 => [0, 3, 5, 6]
  | 10 => [0, 3, 5, 6, 7]
  | 11 => [0, 3, 5, 6, 7, 8]
  | 12 => [0, 3, 5, 6, 7, 8, 53]
  | 14 => [0, 3, 5, 6, 7, 8, 9, 10, 12]
  | 15 => [0, 3, 5, 6, 8, 9, 10, 93]
  | 16 => [2]
  | 17 => [0, 3, 5, 6, 8, 9, 10]
  | 18 => [0, 3, 5, 6, 7, 8]
  | 13 => [0, 3, 5, 6, 7, 8]
  | 19 => [2]
  | _ => []
noncomputable def CC : Tab := C mem_New.spec leak_Step.spec mem_Mem_Bus.spec law07_lives.spec
theorem CS : CC.Sound Go.Proofs.Try.prog := ((((Tab.Sound.none.add mem_New.sound).add leak_Step.sound).add mem_Mem_Bus.sound).add law07_lives.sound)
theorem body_eq (s0 s1 s2 : SpecM) (s3 : SpecP) (fr : AFr) (H : AHeap) : acode Go.Proofs.Try.prog (C s0 s1 s2 s3) (draws Go.Proofs.Try.prog (C s0 s1 s2 s3)) K code fr H = body s0 s1 s2 s3 fr H := by kernel_rfl
theorem callable : Callable Go.Proofs.Try.prog 6 := fun args w => Go.Proofs.Try.call6 args w
theorem hf : Go.Proofs.Try.prog.funcs[6]? = some Go.Proofs.Try.f6 := Go.Proofs.Try.func6
theorem hb : Go.Proofs.Try.f6.body = some code := by kernel_rfl
theorem hok : codeOk Go.Proofs.Try.f6.ntmps code = true := by kernel_rfl
theorem run_eq (a0 : AV) : pureOf Go.Proofs.Try.prog CC (draws Go.Proofs.Try.prog CC) K Go.Proofs.Try.f6 code [a0] = law07_LeakBus a0 := by
  unfold pureOf arun
  rw [if_pos (show [a0].length ≤ Go.Proofs.Try.f6.ntmps from (by decide +kernel : 1 ≤ Go.Proofs.Try.f6.ntmps))]
  unfold afin
  rw [show acode Go.Proofs.Try.prog CC (draws Go.Proofs.Try.prog CC) K code (args0 [a0]) AHeap.empty = body mem_New.spec leak_Step.spec mem_Mem_Bus.spec law07_lives.spec (args0 [a0]) AHeap.empty from body_eq mem_New.spec leak_Step.spec mem_Mem_Bus.spec law07_lives.spec _ _]
  kernel_rfl
theorem sound : Sound Go.Proofs.Try.prog 6 (.pure false spec) := by
  refine (sound_pure CS Mixed (draws _ _) K hf hb hok callable).less fun args r h => ?_
  unfold spec at h
  split at h
  · rw [run_eq]; exact h
  · cases h
end law07_LeakBus
end Go.Abs
