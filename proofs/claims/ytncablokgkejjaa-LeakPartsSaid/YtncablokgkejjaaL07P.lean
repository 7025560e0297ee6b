/-
  That the program's functions are these. Printed by gen.py.
-/
import Derived.Test.YtncablokgkejjaaL07F
import Derived.Test.YtncablokgkejjaaLoP
import Derived.Test.YtncablokgkejjaaLeP
import Derived.Test.YtncablokgkejjaaLrP
import Derived.Test.YtncablokgkejjaaCoP
set_option linter.unusedSimpArgs false
set_option linter.unusedVariables false
namespace Go.Abs
namespace law07_lives
noncomputable def code : Code := match Go.Proofs.Try.f29.body with | some c => c | none => .skip
def K : Nat → List Nat
  | 0 => []
  | 1 => [2, 4]
  | 2 => [0]
  | _ => []
noncomputable def CC : Tab := C mem_New.spec leak_Step.spec
theorem CS : CC.Sound Go.Proofs.Try.prog := ((Tab.Sound.none.add mem_New.sound).add leak_Step.sound)
theorem body_eq (s0 s1 : SpecM) (fr : AFr) (H : AHeap) : acode Go.Proofs.Try.prog (C s0 s1) (draws Go.Proofs.Try.prog (C s0 s1)) K code fr H = body s0 s1 fr H := by kernel_rfl
theorem callable : Callable Go.Proofs.Try.prog 29 := fun args w => Go.Proofs.Try.call29 args w
theorem hf : Go.Proofs.Try.prog.funcs[29]? = some Go.Proofs.Try.f29 := Go.Proofs.Try.func29
theorem hb : Go.Proofs.Try.f29.body = some code := by kernel_rfl
theorem hok : codeOk Go.Proofs.Try.f29.ntmps code = true := by kernel_rfl
theorem run_eq : pureOf Go.Proofs.Try.prog CC (draws Go.Proofs.Try.prog CC) K Go.Proofs.Try.f29 code [] = law07_lives := by
  unfold pureOf arun
  rw [if_pos (show [].length ≤ Go.Proofs.Try.f29.ntmps from (by decide +kernel : 0 ≤ Go.Proofs.Try.f29.ntmps))]
  unfold afin
  rw [show acode Go.Proofs.Try.prog CC (draws Go.Proofs.Try.prog CC) K code (args0 []) AHeap.empty = body mem_New.spec leak_Step.spec (args0 []) AHeap.empty from body_eq mem_New.spec leak_Step.spec _ _]
  kernel_rfl
theorem sound : Sound Go.Proofs.Try.prog 29 (.pure false spec) := by
  refine (sound_pure CS Mixed (draws _ _) K hf hb hok callable).less fun args r h => ?_
  unfold spec at h
  split at h
  · rw [run_eq]; exact h
  · cases h
end law07_lives
namespace law07_LeakParts
noncomputable def code : Code := match Go.Proofs.Try.f7.body with | some c => c | none => .skip
def K : Nat → List Nat
  | 0 => [2, 3]
  | 1 => [2, 3, 5]
  | 2 => [4]
  | _ => []
noncomputable def CC : Tab := C leak_Values.spec leak_Same.spec ref07_Control.spec law07_lives.spec
theorem CS : CC.Sound Go.Proofs.Try.prog := ((((Tab.Sound.none.add leak_Values.sound).add leak_Same.sound).add ref07_Control.sound).add law07_lives.sound)
theorem body_eq (s0 s1 s2 s3 : SpecP) (fr : AFr) (H : AHeap) : acode Go.Proofs.Try.prog (C s0 s1 s2 s3) (draws Go.Proofs.Try.prog (C s0 s1 s2 s3)) K code fr H = body s0 s1 s2 s3 fr H := by kernel_rfl
theorem callable : Callable Go.Proofs.Try.prog 7 := fun args w => Go.Proofs.Try.call7 args w
theorem hf : Go.Proofs.Try.prog.funcs[7]? = some Go.Proofs.Try.f7 := Go.Proofs.Try.func7
theorem hb : Go.Proofs.Try.f7.body = some code := by kernel_rfl
theorem hok : codeOk Go.Proofs.Try.f7.ntmps code = true := by kernel_rfl
theorem run_eq (a0 a1 : AV) : pureOf Go.Proofs.Try.prog CC (draws Go.Proofs.Try.prog CC) K Go.Proofs.Try.f7 code [a0, a1] = law07_LeakParts a0 a1 := by
  unfold pureOf arun
  rw [if_pos (show [a0, a1].length ≤ Go.Proofs.Try.f7.ntmps from (by decide +kernel : 2 ≤ Go.Proofs.Try.f7.ntmps))]
  unfold afin
  rw [show acode Go.Proofs.Try.prog CC (draws Go.Proofs.Try.prog CC) K code (args0 [a0, a1]) AHeap.empty = body leak_Values.spec leak_Same.spec ref07_Control.spec law07_lives.spec (args0 [a0, a1]) AHeap.empty from body_eq leak_Values.spec leak_Same.spec ref07_Control.spec law07_lives.spec _ _]
  kernel_rfl
theorem sound : Sound Go.Proofs.Try.prog 7 (.pure false spec) := by
  refine (sound_pure CS Mixed (draws _ _) K hf hb hok callable).less fun args r h => ?_
  unfold spec at h
  split at h
  · rw [run_eq]; exact h
  · cases h
end law07_LeakParts
end Go.Abs
