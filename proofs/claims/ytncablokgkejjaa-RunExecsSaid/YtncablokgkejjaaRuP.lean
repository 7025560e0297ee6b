/-
  That the program's functions are these. Printed by gen.py.
-/
import Derived.Test.YtncablokgkejjaaRuF
import Derived.Test.YtncablokgkejjaaLoP
import Derived.Test.YtncablokgkejjaaLeP
import Derived.Test.YtncablokgkejjaaCoP
set_option linter.unusedSimpArgs false
set_option linter.unusedVariables false
namespace Go.Abs
namespace run_goes
noncomputable def code : Code := match Go.Proofs.Try.f72.body with | some c => c | none => .skip
def K : Nat → List Nat
  | 0 => [0, 1, 2, 3, 4, 10]
  | 1 => [1, 3, 4, 10, 11]
  | 2 => [3, 4, 10, 11, 24, 25, 26]
  | 3 => [3, 4, 10, 11, 24, 25, 26, 27]
  | 4 => [3, 4, 10, 11, 12, 13, 24, 25, 26]
  | 5 => [3, 4, 10, 11, 24, 25, 26]
  | 6 => [3, 4, 10, 11, 24, 25, 26]
  | 7 => [3, 4, 10, 11]
  | 8 => [3, 4, 10, 11, 14]
  | 9 => [3, 4, 10, 11, 14, 15]
  | 10 => [3, 4, 10, 11, 14, 15, 43]
  | 11 => [3, 4, 10, 11, 14, 15, 16]
  | 12 => [3, 4, 10, 11, 14, 15, 16]
  | 13 => [3, 4, 10, 11, 14, 15, 16]
  | 14 => [3, 4, 10, 11, 14, 15, 16, 44]
  | 15 => [3, 4, 10, 11, 14, 15, 16, 17, 18]
  | 16 => [3, 4, 10, 11, 14, 15, 16, 17, 18]
  | 17 => [3, 4, 10, 11, 14, 15, 16, 17, 18, 61]
  | 18 => [10, 11, 14]
  | 19 => [3, 4, 10, 11, 14, 15, 16, 17]
  | 20 => [3, 4, 10, 11, 14, 15, 16, 17, 68]
  | 21 => [3, 4, 10, 11, 14, 15, 17]
  | 22 => [3, 4, 10, 11, 14, 15, 75]
  | 23 => [10, 11, 14]
  | 24 => [10, 14]
  | 25 => [10]
  | _ => []
noncomputable def CC : Tab := C mem_New.spec mem_Mem_Set.spec leak_Step.spec core_Step.spec mem_Mem_Drawn.spec mem_Mem_Words.spec
theorem CS : CC.Sound Go.Proofs.Try.prog := ((((((Tab.Sound.none.add mem_New.sound).add mem_Mem_Set.sound).add leak_Step.sound).add core_Step.sound).add mem_Mem_Drawn.sound).add mem_Mem_Words.sound)
theorem body_eq (s0 s1 s2 s3 s4 s5 : SpecM) (fr : AFr) (H : AHeap) : acode Go.Proofs.Try.prog (C s0 s1 s2 s3 s4 s5) (draws Go.Proofs.Try.prog (C s0 s1 s2 s3 s4 s5)) K code fr H = body s0 s1 s2 s3 s4 s5 fr H := by kernel_rfl
theorem callable : Callable Go.Proofs.Try.prog 72 := fun args w => Go.Proofs.Try.call72 args w
theorem hf : Go.Proofs.Try.prog.funcs[72]? = some Go.Proofs.Try.f72 := Go.Proofs.Try.func72
theorem hb : Go.Proofs.Try.f72.body = some code := by kernel_rfl
theorem hok : codeOk Go.Proofs.Try.f72.ntmps code = true := by kernel_rfl
theorem run_eq (a0 a1 a2 a3 a4 : AV) : pureOf Go.Proofs.Try.prog CC (draws Go.Proofs.Try.prog CC) K Go.Proofs.Try.f72 code [a0, a1, a2, a3, a4] = run_goes a0 a1 a2 a3 a4 := by
  unfold pureOf arun
  rw [if_pos (show [a0, a1, a2, a3, a4].length ≤ Go.Proofs.Try.f72.ntmps from (by decide +kernel : 5 ≤ Go.Proofs.Try.f72.ntmps))]
  unfold afin
  rw [show acode Go.Proofs.Try.prog CC (draws Go.Proofs.Try.prog CC) K code (args0 [a0, a1, a2, a3, a4]) AHeap.empty = body mem_New.spec mem_Mem_Set.spec leak_Step.spec core_Step.spec mem_Mem_Drawn.spec mem_Mem_Words.spec (args0 [a0, a1, a2, a3, a4]) AHeap.empty from body_eq mem_New.spec mem_Mem_Set.spec leak_Step.spec core_Step.spec mem_Mem_Drawn.spec mem_Mem_Words.spec _ _]
  kernel_rfl
theorem sound : Sound Go.Proofs.Try.prog 72 (.pure false spec) := by
  refine (sound_pure CS Mixed (draws _ _) K hf hb hok callable).less fun args r h => ?_
  unfold spec at h
  split at h
  · rw [run_eq]; exact h
  · cases h
end run_goes
namespace run_Exec
noncomputable def code : Code := match Go.Proofs.Try.f39.body with | some c => c | none => .skip
def K : Nat → List Nat
  | 0 => [0, 1, 2, 3, 8]
  | 1 => [8]
  | _ => []
noncomputable def CC : Tab := C run_goes.spec
theorem CS : CC.Sound Go.Proofs.Try.prog := (Tab.Sound.none.add run_goes.sound)
theorem body_eq (s0 : SpecP) (fr : AFr) (H : AHeap) : acode Go.Proofs.Try.prog (C s0) (draws Go.Proofs.Try.prog (C s0)) K code fr H = body s0 fr H := by kernel_rfl
theorem callable : Callable Go.Proofs.Try.prog 39 := fun args w => Go.Proofs.Try.call39 args w
theorem hf : Go.Proofs.Try.prog.funcs[39]? = some Go.Proofs.Try.f39 := Go.Proofs.Try.func39
theorem hb : Go.Proofs.Try.f39.body = some code := by kernel_rfl
theorem hok : codeOk Go.Proofs.Try.f39.ntmps code = true := by kernel_rfl
theorem run_eq (a0 a1 a2 a3 : AV) : pureOf Go.Proofs.Try.prog CC (draws Go.Proofs.Try.prog CC) K Go.Proofs.Try.f39 code [a0, a1, a2, a3] = run_Exec a0 a1 a2 a3 := by
  unfold pureOf arun
  rw [if_pos (show [a0, a1, a2, a3].length ≤ Go.Proofs.Try.f39.ntmps from (by decide +kernel : 4 ≤ Go.Proofs.Try.f39.ntmps))]
  unfold afin
  rw [show acode Go.Proofs.Try.prog CC (draws Go.Proofs.Try.prog CC) K code (args0 [a0, a1, a2, a3]) AHeap.empty = body run_goes.spec (args0 [a0, a1, a2, a3]) AHeap.empty from body_eq run_goes.spec _ _]
  kernel_rfl
theorem sound : Sound Go.Proofs.Try.prog 39 (.pure false spec) := by
  refine (sound_pure CS Mixed (draws _ _) K hf hb hok callable).less fun args r h => ?_
  unfold spec at h
  split at h
  · rw [run_eq]; exact h
  · cases h
end run_Exec
namespace run_Quick
noncomputable def code : Code := match Go.Proofs.Try.f43.body with | some c => c | none => .skip
def K : Nat → List Nat
  | 0 => [0, 1, 2, 3, 8]
  | 1 => [8]
  | _ => []
noncomputable def CC : Tab := C run_goes.spec
theorem CS : CC.Sound Go.Proofs.Try.prog := (Tab.Sound.none.add run_goes.sound)
theorem body_eq (s0 : SpecP) (fr : AFr) (H : AHeap) : acode Go.Proofs.Try.prog (C s0) (draws Go.Proofs.Try.prog (C s0)) K code fr H = body s0 fr H := by kernel_rfl
theorem callable : Callable Go.Proofs.Try.prog 43 := fun args w => Go.Proofs.Try.call43 args w
theorem hf : Go.Proofs.Try.prog.funcs[43]? = some Go.Proofs.Try.f43 := Go.Proofs.Try.func43
theorem hb : Go.Proofs.Try.f43.body = some code := by kernel_rfl
theorem hok : codeOk Go.Proofs.Try.f43.ntmps code = true := by kernel_rfl
theorem run_eq (a0 a1 a2 a3 : AV) : pureOf Go.Proofs.Try.prog CC (draws Go.Proofs.Try.prog CC) K Go.Proofs.Try.f43 code [a0, a1, a2, a3] = run_Quick a0 a1 a2 a3 := by
  unfold pureOf arun
  rw [if_pos (show [a0, a1, a2, a3].length ≤ Go.Proofs.Try.f43.ntmps from (by decide +kernel : 4 ≤ Go.Proofs.Try.f43.ntmps))]
  unfold afin
  rw [show acode Go.Proofs.Try.prog CC (draws Go.Proofs.Try.prog CC) K code (args0 [a0, a1, a2, a3]) AHeap.empty = body run_goes.spec (args0 [a0, a1, a2, a3]) AHeap.empty from body_eq run_goes.spec _ _]
  kernel_rfl
theorem sound : Sound Go.Proofs.Try.prog 43 (.pure false spec) := by
  refine (sound_pure CS Mixed (draws _ _) K hf hb hok callable).less fun args r h => ?_
  unfold spec at h
  split at h
  · rw [run_eq]; exact h
  · cases h
end run_Quick
end Go.Abs
