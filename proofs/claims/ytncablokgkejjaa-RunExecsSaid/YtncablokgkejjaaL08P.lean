/-
  That the program's functions are these. Printed by gen.py.
-/
import Derived.Test.YtncablokgkejjaaL08F
import Derived.Test.YtncablokgkejjaaRuP
import Derived.Test.YtncablokgkejjaaRrP
import Derived.Test.YtncablokgkejjaaLoP
set_option linter.unusedSimpArgs false
set_option linter.unusedVariables false
namespace Go.Abs
namespace law08_small
noncomputable def code : Code := match Go.Proofs.Try.f37.body with | some c => c | none => .skip
def K : Nat → List Nat
  | 0 => [1, 2]
  | 1 => [1, 2, 6]
  | 2 => [1, 2]
  | 3 => [1, 2, 14]
  | 4 => [1, 2]
  | 5 => [1, 2, 22]
  | 6 => [1, 2]
  | 7 => [2]
  | _ => []
noncomputable def CC : Tab := C
theorem CS : CC.Sound Go.Proofs.Try.prog := Tab.Sound.none
theorem body_eq (fr : AFr) (H : AHeap) : acode Go.Proofs.Try.prog C (draws Go.Proofs.Try.prog C) K code fr H = body fr H := by kernel_rfl
theorem callable : Callable Go.Proofs.Try.prog 37 := fun args w => Go.Proofs.Try.call37 args w
theorem hf : Go.Proofs.Try.prog.funcs[37]? = some Go.Proofs.Try.f37 := Go.Proofs.Try.func37
theorem hb : Go.Proofs.Try.f37.body = some code := by kernel_rfl
theorem hok : codeOk Go.Proofs.Try.f37.ntmps code = true := by kernel_rfl
theorem run_eq (a0 : AV) : pureOf Go.Proofs.Try.prog CC (draws Go.Proofs.Try.prog CC) K Go.Proofs.Try.f37 code [a0] = law08_small a0 := by
  unfold pureOf arun
  rw [if_pos (show [a0].length ≤ Go.Proofs.Try.f37.ntmps from (by decide +kernel : 1 ≤ Go.Proofs.Try.f37.ntmps))]
  unfold afin
  rw [show acode Go.Proofs.Try.prog CC (draws Go.Proofs.Try.prog CC) K code (args0 [a0]) AHeap.empty = body (args0 [a0]) AHeap.empty from body_eq _ _]
  kernel_rfl
theorem sound : Sound Go.Proofs.Try.prog 37 (.pure false spec) := by
  refine (sound_pure CS Mixed (draws _ _) K hf hb hok callable).less fun args r h => ?_
  unfold spec at h
  split at h
  · rw [run_eq]; exact h
  · cases h
end law08_small
namespace law08_few
noncomputable def code : Code := match Go.Proofs.Try.f38.body with | some c => c | none => .skip
def K : Nat → List Nat
  | 0 => [0]
  | 1 => [0, 4]
  | 2 => [2]
  | 3 => [2]
  | _ => []
noncomputable def CC : Tab := C
theorem CS : CC.Sound Go.Proofs.Try.prog := Tab.Sound.none
theorem body_eq (fr : AFr) (H : AHeap) : acode Go.Proofs.Try.prog C (draws Go.Proofs.Try.prog C) K code fr H = body fr H := by kernel_rfl
theorem callable : Callable Go.Proofs.Try.prog 38 := fun args w => Go.Proofs.Try.call38 args w
theorem hf : Go.Proofs.Try.prog.funcs[38]? = some Go.Proofs.Try.f38 := Go.Proofs.Try.func38
theorem hb : Go.Proofs.Try.f38.body = some code := by kernel_rfl
theorem hok : codeOk Go.Proofs.Try.f38.ntmps code = true := by kernel_rfl
theorem run_eq (a0 : AV) : pureOf Go.Proofs.Try.prog CC (draws Go.Proofs.Try.prog CC) K Go.Proofs.Try.f38 code [a0] = law08_few a0 := by
  unfold pureOf arun
  rw [if_pos (show [a0].length ≤ Go.Proofs.Try.f38.ntmps from (by decide +kernel : 1 ≤ Go.Proofs.Try.f38.ntmps))]
  unfold afin
  rw [show acode Go.Proofs.Try.prog CC (draws Go.Proofs.Try.prog CC) K code (args0 [a0]) AHeap.empty = body (args0 [a0]) AHeap.empty from body_eq _ _]
  kernel_rfl
theorem sound : Sound Go.Proofs.Try.prog 38 (.pure false spec) := by
  refine (sound_pure CS Mixed (draws _ _) K hf hb hok callable).less fun args r h => ?_
  unfold spec at h
  split at h
  · rw [run_eq]; exact h
  · cases h
end law08_few
namespace law08_lives
noncomputable def code : Code := match Go.Proofs.Try.f41.body with | some c => c | none => .skip
def K : Nat → List Nat
  | 0 => []
  | 1 => [1]
  | 2 => [0]
  | _ => []
noncomputable def CC : Tab := C run_Exec.spec
theorem CS : CC.Sound Go.Proofs.Try.prog := (Tab.Sound.none.add run_Exec.sound)
theorem body_eq (s0 : SpecP) (fr : AFr) (H : AHeap) : acode Go.Proofs.Try.prog (C s0) (draws Go.Proofs.Try.prog (C s0)) K code fr H = body s0 fr H := by kernel_rfl
theorem callable : Callable Go.Proofs.Try.prog 41 := fun args w => Go.Proofs.Try.call41 args w
theorem hf : Go.Proofs.Try.prog.funcs[41]? = some Go.Proofs.Try.f41 := Go.Proofs.Try.func41
theorem hb : Go.Proofs.Try.f41.body = some code := by kernel_rfl
theorem hok : codeOk Go.Proofs.Try.f41.ntmps code = true := by kernel_rfl
theorem run_eq : pureOf Go.Proofs.Try.prog CC (draws Go.Proofs.Try.prog CC) K Go.Proofs.Try.f41 code [] = law08_lives := by
  unfold pureOf arun
  rw [if_pos (show [].length ≤ Go.Proofs.Try.f41.ntmps from (by decide +kernel : 0 ≤ Go.Proofs.Try.f41.ntmps))]
  unfold afin
  rw [show acode Go.Proofs.Try.prog CC (draws Go.Proofs.Try.prog CC) K code (args0 []) AHeap.empty = body run_Exec.spec (args0 []) AHeap.empty from body_eq run_Exec.spec _ _]
  kernel_rfl
theorem sound : Sound Go.Proofs.Try.prog 41 (.pure false spec) := by
  refine (sound_pure CS Mixed (draws _ _) K hf hb hok callable).less fun args r h => ?_
  unfold spec at h
  split at h
  · rw [run_eq]; exact h
  · cases h
end law08_lives
namespace law08_RunExecs
noncomputable def code : Code := match Go.Proofs.Try.f12.body with | some c => c | none => .skip
def K : Nat → List Nat
  | 0 => [1, 2]
  | 1 => [1, 2]
  | 2 => [1, 2, 5, 6]
  | 3 => [5, 6, 7]
  | 4 => [6, 7, 45]
  | 5 => [4]
  | 6 => [6, 7]
  | 7 => [4]
  | _ => []
noncomputable def CC : Tab := C law08_small.spec law08_few.spec run_Exec.spec ref08_Exec.spec run_Quick.spec ref08_Same.spec law08_lives.spec
theorem CS : CC.Sound Go.Proofs.Try.prog := (((((((Tab.Sound.none.add law08_small.sound).add law08_few.sound).add run_Exec.sound).add ref08_Exec.sound).add run_Quick.sound).add ref08_Same.sound).add law08_lives.sound)
theorem body_eq (s0 s1 s2 s3 s4 s5 s6 : SpecP) (fr : AFr) (H : AHeap) : acode Go.Proofs.Try.prog (C s0 s1 s2 s3 s4 s5 s6) (draws Go.Proofs.Try.prog (C s0 s1 s2 s3 s4 s5 s6)) K code fr H = body s0 s1 s2 s3 s4 s5 s6 fr H := by kernel_rfl
theorem callable : Callable Go.Proofs.Try.prog 12 := fun args w => Go.Proofs.Try.call12 args w
theorem hf : Go.Proofs.Try.prog.funcs[12]? = some Go.Proofs.Try.f12 := Go.Proofs.Try.func12
theorem hb : Go.Proofs.Try.f12.body = some code := by kernel_rfl
theorem hok : codeOk Go.Proofs.Try.f12.ntmps code = true := by kernel_rfl
theorem run_eq (a0 a1 : AV) : pureOf Go.Proofs.Try.prog CC (draws Go.Proofs.Try.prog CC) K Go.Proofs.Try.f12 code [a0, a1] = law08_RunExecs a0 a1 := by
  unfold pureOf arun
  rw [if_pos (show [a0, a1].length ≤ Go.Proofs.Try.f12.ntmps from (by decide +kernel : 2 ≤ Go.Proofs.Try.f12.ntmps))]
  unfold afin
  rw [show acode Go.Proofs.Try.prog CC (draws Go.Proofs.Try.prog CC) K code (args0 [a0, a1]) AHeap.empty = body law08_small.spec law08_few.spec run_Exec.spec ref08_Exec.spec run_Quick.spec ref08_Same.spec law08_lives.spec (args0 [a0, a1]) AHeap.empty from body_eq law08_small.spec law08_few.spec run_Exec.spec ref08_Exec.spec run_Quick.spec ref08_Same.spec law08_lives.spec _ _]
  kernel_rfl
theorem sound : Sound Go.Proofs.Try.prog 12 (.pure false spec) := by
  refine (sound_pure CS Mixed (draws _ _) K hf hb hok callable).less fun args r h => ?_
  unfold spec at h
  split at h
  · rw [run_eq]; exact h
  · cases h
end law08_RunExecs
end Go.Abs
