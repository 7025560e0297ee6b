/-
  That the program's functions are these. Printed by gen.py.
-/
import Derived.Test.YtncablokgkejjaaL06F
import Derived.Test.YtncablokgkejjaaLoP
import Derived.Test.YtncablokgkejjaaCoP
import Derived.Test.YtncablokgkejjaaCrP
set_option linter.unusedSimpArgs false
set_option linter.unusedVariables false
namespace Go.Abs
namespace law06_lives
noncomputable def code : Code := match Go.Proofs.Try.f21.body with | some c => c | none => .skip
def K : Nat → List Nat
  | 0 => []
  | 1 => [1]
  | 2 => [2, 3, 4]
  | 3 => [0]
  | _ => []
noncomputable def CC : Tab := C mem_New.spec core_Step.spec
theorem CS : CC.Sound Go.Proofs.Try.prog := ((Tab.Sound.none.add mem_New.sound).add core_Step.sound)
theorem body_eq (s0 s1 : SpecM) (fr : AFr) (H : AHeap) : acode Go.Proofs.Try.prog (C s0 s1) (draws Go.Proofs.Try.prog (C s0 s1)) K code fr H = body s0 s1 fr H := by kernel_rfl
theorem callable : Callable Go.Proofs.Try.prog 21 := fun args w => Go.Proofs.Try.call21 args w
theorem hf : Go.Proofs.Try.prog.funcs[21]? = some Go.Proofs.Try.f21 := Go.Proofs.Try.func21
theorem hb : Go.Proofs.Try.f21.body = some code := by kernel_rfl
theorem hok : codeOk Go.Proofs.Try.f21.ntmps code = true := by kernel_rfl
theorem run_eq : pureOf Go.Proofs.Try.prog CC (draws Go.Proofs.Try.prog CC) K Go.Proofs.Try.f21 code [] = law06_lives := by
  unfold pureOf arun
  rw [if_pos (show [].length ≤ Go.Proofs.Try.f21.ntmps from (by decide +kernel : 0 ≤ Go.Proofs.Try.f21.ntmps))]
  unfold afin
  rw [show acode Go.Proofs.Try.prog CC (draws Go.Proofs.Try.prog CC) K code (args0 []) AHeap.empty = body mem_New.spec core_Step.spec (args0 []) AHeap.empty from body_eq mem_New.spec core_Step.spec _ _]
  kernel_rfl
theorem sound : Sound Go.Proofs.Try.prog 21 (.pure false spec) := by
  refine (sound_pure CS Mixed (draws _ _) K hf hb hok callable).less fun args r h => ?_
  unfold spec at h
  split at h
  · rw [run_eq]; exact h
  · cases h
end law06_lives
namespace law06_CoreRuns
noncomputable def code : Code := match Go.Proofs.Try.f3.body with | some c => c | none => .skip
def K : Nat → List Nat
  | 0 => [0, 2, 4]
  | 1 => [0, 2, 4, 18]
  | 2 => [0, 2, 4]
  | 3 => [0, 2, 4, 23]
  | 4 => [0, 2, 4]
  | 5 => [4, 7, 8]
  | 6 => [4, 7, 8, 37]
  | 7 => [6]
  | 8 => [4, 7, 8]
  | 9 => [4, 7, 8, 9]
  | 10 => [4, 7, 8, 9, 40]
  | 12 => [4, 7, 8, 9, 10, 11, 12]
  | 13 => [4, 7, 8, 9, 10, 11, 12, 13, 14, 15]
  | 14 => [4, 7, 8, 9, 10, 11, 12, 79]
  | 15 => [6]
  | 16 => [4, 7, 8, 9, 10, 84]
  | 17 => [6]
  | 18 => [4, 7, 8, 9]
  | 11 => [4, 7, 8, 9]
  | 19 => [6]
  | _ => []
noncomputable def CC : Tab := C mem_New.spec ref05_New.spec core_Step.spec ref06_Step.spec mem_Mem_Words.spec ref05_Same.spec law06_lives.spec
theorem CS : CC.Sound Go.Proofs.Try.prog := (((((((Tab.Sound.none.add mem_New.sound).add ref05_New.sound).add core_Step.sound).add ref06_Step.sound).add mem_Mem_Words.sound).add ref05_Same.sound).add law06_lives.sound)
theorem body_eq (s0 s1 s2 s3 s4 : SpecM) (s5 s6 : SpecP) (fr : AFr) (H : AHeap) : acode Go.Proofs.Try.prog (C s0 s1 s2 s3 s4 s5 s6) (draws Go.Proofs.Try.prog (C s0 s1 s2 s3 s4 s5 s6)) K code fr H = body s0 s1 s2 s3 s4 s5 s6 fr H := by kernel_rfl
theorem callable : Callable Go.Proofs.Try.prog 3 := fun args w => Go.Proofs.Try.call3 args w
theorem hf : Go.Proofs.Try.prog.funcs[3]? = some Go.Proofs.Try.f3 := Go.Proofs.Try.func3
theorem hb : Go.Proofs.Try.f3.body = some code := by kernel_rfl
theorem hok : codeOk Go.Proofs.Try.f3.ntmps code = true := by kernel_rfl
theorem run_eq (a0 a1 a2 : AV) : pureOf Go.Proofs.Try.prog CC (draws Go.Proofs.Try.prog CC) K Go.Proofs.Try.f3 code [a0, a1, a2] = law06_CoreRuns a0 a1 a2 := by
  unfold pureOf arun
  rw [if_pos (show [a0, a1, a2].length ≤ Go.Proofs.Try.f3.ntmps from (by decide +kernel : 3 ≤ Go.Proofs.Try.f3.ntmps))]
  unfold afin
  rw [show acode Go.Proofs.Try.prog CC (draws Go.Proofs.Try.prog CC) K code (args0 [a0, a1, a2]) AHeap.empty = body mem_New.spec ref05_New.spec core_Step.spec ref06_Step.spec mem_Mem_Words.spec ref05_Same.spec law06_lives.spec (args0 [a0, a1, a2]) AHeap.empty from body_eq mem_New.spec ref05_New.spec core_Step.spec ref06_Step.spec mem_Mem_Words.spec ref05_Same.spec law06_lives.spec _ _]
  kernel_rfl
theorem sound : Sound Go.Proofs.Try.prog 3 (.pure false spec) := by
  refine (sound_pure CS Mixed (draws _ _) K hf hb hok callable).less fun args r h => ?_
  unfold spec at h
  split at h
  · rw [run_eq]; exact h
  · cases h
end law06_CoreRuns
namespace mem_New_refn
noncomputable def code : Code := match Go.Proofs.Try.f15.body with | some c => c | none => .skip
def K : Nat → List Nat
  | 0 => [0, 1, 2]
  | 1 => [6]
  | _ => []
noncomputable def CC : Tab := C slices_Clone_uint16.spec slices_Clone_uint32.spec
theorem CS : CC.Sound Go.Proofs.Try.prog := ((Tab.Sound.none.add slices_Clone_uint16.sound).add slices_Clone_uint32.sound)
theorem body_eq (s0 s1 : SpecP) (fr : AFr) (H : AHeap) : acode Go.Proofs.Try.prog (C s0 s1) (draws Go.Proofs.Try.prog (C s0 s1)) K code fr H = body s0 s1 fr H := by kernel_rfl
theorem callable : Callable Go.Proofs.Try.prog 15 := fun args w => Go.Proofs.Try.call15 args w
theorem hf : Go.Proofs.Try.prog.funcs[15]? = some Go.Proofs.Try.f15 := Go.Proofs.Try.func15
theorem hb : Go.Proofs.Try.f15.body = some code := by kernel_rfl
theorem hok : codeOk Go.Proofs.Try.f15.ntmps code = true := by kernel_rfl
theorem run_eq (a0 a1 a2 : AV) (H : AHeap) : refOf Go.Proofs.Try.prog CC (draws Go.Proofs.Try.prog CC) K Go.Proofs.Try.f15 code [a0, a1, a2] H = mem_New_refn a0 a1 a2 H := by
  unfold refOf arun
  rw [if_pos (show [a0, a1, a2].length ≤ Go.Proofs.Try.f15.ntmps from (by decide +kernel : 3 ≤ Go.Proofs.Try.f15.ntmps))]
  unfold afin
  rw [show acode Go.Proofs.Try.prog CC (draws Go.Proofs.Try.prog CC) K code (args0 [a0, a1, a2]) H = body slices_Clone_uint16.spec slices_Clone_uint32.spec (args0 [a0, a1, a2]) H from body_eq slices_Clone_uint16.spec slices_Clone_uint32.spec _ _]
  kernel_rfl
theorem sound : Sound Go.Proofs.Try.prog 15 (.ref [false, false, false] spec) := by
  refine (sound_ref CS Mixed (draws _ _) K hf hb hok callable [false, false, false]).lessR fun args H r h => ?_
  unfold spec at h
  split at h
  · rw [run_eq]; exact h
  · cases h
end mem_New_refn
namespace law06_CoreSteps
noncomputable def code : Code := match Go.Proofs.Try.f5.body with | some c => c | none => .skip
def K : Nat → List Nat
  | 0 => [3, 4, 5]
  | 1 => [4, 5, 7, 8]
  | 2 => [4, 5, 7, 25]
  | 3 => [6]
  | 4 => [4, 5, 9]
  | 5 => [4, 5, 9]
  | 6 => [4, 5, 10, 11]
  | 7 => [4, 5, 10, 11, 37]
  | 8 => [6]
  | 9 => [4, 5, 10, 11, 12]
  | 10 => [4, 5, 10, 11, 12, 39]
  | 12 => [4, 5, 10, 11, 12]
  | 13 => [4, 5, 10, 11, 12]
  | 11 => [4, 5, 10, 11, 12]
  | 14 => [4, 10, 11, 13, 14, 15]
  | 15 => [10, 11, 13, 14, 15, 16, 17, 18]
  | 16 => [6]
  | _ => []
noncomputable def CC : Tab := C ref02_Put.spec law06_lives.spec mem_New_refn.spec ref05_New.spec mem_Mem_Set.spec core_Step.spec ref06_Step.spec mem_Mem_Words.spec ref05_Same.spec mem_Mem_Bus.spec mem_Mem_Drawn.spec
theorem CS : CC.Sound Go.Proofs.Try.prog := (((((((((((Tab.Sound.none.add ref02_Put.sound).add law06_lives.sound).add mem_New_refn.sound).add ref05_New.sound).add mem_Mem_Set.sound).add core_Step.sound).add ref06_Step.sound).add mem_Mem_Words.sound).add ref05_Same.sound).add mem_Mem_Bus.sound).add mem_Mem_Drawn.sound)
theorem body_eq (s0 s1 : SpecP) (s2 s3 s4 s5 s6 s7 : SpecM) (s8 : SpecP) (s9 s10 : SpecM) (fr : AFr) (H : AHeap) : acode Go.Proofs.Try.prog (C s0 s1 s2 s3 s4 s5 s6 s7 s8 s9 s10) (draws Go.Proofs.Try.prog (C s0 s1 s2 s3 s4 s5 s6 s7 s8 s9 s10)) K code fr H = body s0 s1 s2 s3 s4 s5 s6 s7 s8 s9 s10 fr H := by kernel_rfl
theorem callable : Callable Go.Proofs.Try.prog 5 := fun args w => Go.Proofs.Try.call5 args w
theorem hf : Go.Proofs.Try.prog.funcs[5]? = some Go.Proofs.Try.f5 := Go.Proofs.Try.func5
theorem hb : Go.Proofs.Try.f5.body = some code := by kernel_rfl
theorem hok : codeOk Go.Proofs.Try.f5.ntmps code = true := by kernel_rfl
theorem run_eq (a0 a1 a2 : AV) : pureOf Go.Proofs.Try.prog CC (draws Go.Proofs.Try.prog CC) K Go.Proofs.Try.f5 code [a0, a1, a2] = law06_CoreSteps a0 a1 a2 := by
  unfold pureOf arun
  rw [if_pos (show [a0, a1, a2].length ≤ Go.Proofs.Try.f5.ntmps from (by decide +kernel : 3 ≤ Go.Proofs.Try.f5.ntmps))]
  unfold afin
  rw [show acode Go.Proofs.Try.prog CC (draws Go.Proofs.Try.prog CC) K code (args0 [a0, a1, a2]) AHeap.empty = body ref02_Put.spec law06_lives.spec mem_New_refn.spec ref05_New.spec mem_Mem_Set.spec core_Step.spec ref06_Step.spec mem_Mem_Words.spec ref05_Same.spec mem_Mem_Bus.spec mem_Mem_Drawn.spec (args0 [a0, a1, a2]) AHeap.empty from body_eq ref02_Put.spec law06_lives.spec mem_New_refn.spec ref05_New.spec mem_Mem_Set.spec core_Step.spec ref06_Step.spec mem_Mem_Words.spec ref05_Same.spec mem_Mem_Bus.spec mem_Mem_Drawn.spec _ _]
  kernel_rfl
theorem sound : Sound Go.Proofs.Try.prog 5 (.pure false spec) := by
  refine (sound_pure CS Mixed (draws _ _) K hf hb hok callable).less fun args r h => ?_
  unfold spec at h
  split at h
  · rw [run_eq]; exact h
  · cases h
end law06_CoreSteps
end Go.Abs
