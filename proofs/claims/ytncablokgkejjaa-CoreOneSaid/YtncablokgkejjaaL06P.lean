/-
  That the program's functions are these. Printed by gen.py.
-/
import Derived.Test.YtncablokgkejjaaL06F
import Derived.Test.YtncablokgkejjaaLoP
import Derived.Test.YtncablokgkejjaaCoP
import Derived.Test.YtncablokgkejjaaCrP
set_option linter.unusedSimpArgs false
set_option linter.unusedVariables false
namespace Go.Abs
namespace law06_lives
noncomputable def code : Code := match Go.Proofs.Try.f21.body with | some c => c | none => .skip
def K : Nat → List Nat
  | 0 => []
  | 1 => [1]
  | 2 => [2, 3, 4]
  | 3 => [0]
  | _ => []
noncomputable def CC : Tab := C mem_New.spec core_Step.spec
theorem CS : CC.Sound Go.Proofs.Try.prog := ((Tab.Sound.none.add mem_New.sound).add core_Step.sound)
theorem body_eq (s0 s1 : SpecM) (fr : AFr) (H : AHeap) : acode Go.Proofs.Try.prog (C s0 s1) (draws Go.Proofs.Try.prog (C s0 s1)) K code fr H = body s0 s1 fr H := by kernel_rfl
theorem callable : Callable Go.Proofs.Try.prog 21 := fun args w => Go.Proofs.Try.call21 args w
theorem hf : Go.Proofs.Try.prog.funcs[21]? = some Go.Proofs.Try.f21 := Go.Proofs.Try.func21
theorem hb : Go.Proofs.Try.f21.body = some code := by kernel_rfl
theorem hok : codeOk Go.Proofs.Try.f21.ntmps code = true := by kernel_rfl
theorem run_eq : pureOf Go.Proofs.Try.prog CC (draws Go.Proofs.Try.prog CC) K Go.Proofs.Try.f21 code [] = law06_lives := by
  unfold pureOf arun
  rw [if_pos (show [].length ≤ Go.Proofs.Try.f21.ntmps from (by decide +kernel : 0 ≤ Go.Proofs.Try.f21.ntmps))]
  unfold afin
  rw [show acode Go.Proofs.Try.prog CC (draws Go.Proofs.Try.prog CC) K code (args0 []) AHeap.empty = body mem_New.spec core_Step.spec (args0 []) AHeap.empty from body_eq mem_New.spec core_Step.spec _ _]
  kernel_rfl
theorem sound : Sound Go.Proofs.Try.prog 21 (.pure false spec) := by
  refine (sound_pure CS Mixed (draws _ _) K hf hb hok callable).less fun args r h => ?_
  unfold spec at h
  split at h
  · rw [run_eq]; exact h
  · cases h
end law06_lives
namespace law06_CoreOne
noncomputable def code : Code := match Go.Proofs.Try.f4.body with | some c => c | none => .skip
def K : Nat → List Nat
  | 0 => [2, 3]
  | 1 => [2, 3, 5, 6]
  | 2 => [2, 3, 5, 28]
  | 3 => [4]
  | 4 => [2, 5, 7, 8]
  | 5 => [2, 5, 7, 8, 9]
  | 6 => [2, 5, 7, 8, 9, 10]
  | 7 => [2, 5, 7, 8, 9, 10, 39]
  | 9 => [2, 5, 7, 8, 9, 10]
  | 8 => [2, 5, 7, 8, 9, 10]
  | 10 => [2, 5, 7, 8]
  | 11 => [2, 5, 7, 8]
  | 12 => [2, 7, 8, 11, 12]
  | 13 => [2, 7, 8, 11, 12, 13, 15]
  | 14 => [2, 7, 8, 11, 12, 13, 15, 16, 18]
  | 15 => [7, 8, 11, 12, 13, 15, 16, 18, 19, 20]
  | 16 => [7, 8, 13, 15, 16, 19, 20, 121]
  | 17 => [4]
  | 18 => [7, 8, 13, 15, 16, 19, 20, 21]
  | 19 => [7, 8, 13, 15, 16, 19, 20, 21, 123]
  | 21 => [7, 8, 13, 15, 16, 19, 20, 21, 135]
  | 22 => [7, 8, 13, 15, 16, 19, 20, 21, 144]
  | 23 => [4]
  | 24 => [7, 8, 13, 15, 16, 19, 20, 21, 164]
  | 25 => [4]
  | 20 => [7, 8, 13, 15, 16, 19, 20, 21]
  | 26 => [4]
  | _ => []
noncomputable def CC : Tab := C ref02_Put.spec law06_lives.spec ref02_Reads.spec mem_New.spec core_Step.spec ref02_Writes.spec mem_Mem_Words.spec ref05_Same.spec
theorem CS : CC.Sound Go.Proofs.Try.prog := ((((((((Tab.Sound.none.add ref02_Put.sound).add law06_lives.sound).add ref02_Reads.sound).add mem_New.sound).add core_Step.sound).add ref02_Writes.sound).add mem_Mem_Words.sound).add ref05_Same.sound)
theorem body_eq (s0 s1 s2 : SpecP) (s3 s4 : SpecM) (s5 : SpecP) (s6 : SpecM) (s7 : SpecP) (fr : AFr) (H : AHeap) : acode Go.Proofs.Try.prog (C s0 s1 s2 s3 s4 s5 s6 s7) (draws Go.Proofs.Try.prog (C s0 s1 s2 s3 s4 s5 s6 s7)) K code fr H = body s0 s1 s2 s3 s4 s5 s6 s7 fr H := by kernel_rfl
theorem callable : Callable Go.Proofs.Try.prog 4 := fun args w => Go.Proofs.Try.call4 args w
theorem hf : Go.Proofs.Try.prog.funcs[4]? = some Go.Proofs.Try.f4 := Go.Proofs.Try.func4
theorem hb : Go.Proofs.Try.f4.body = some code := by kernel_rfl
theorem hok : codeOk Go.Proofs.Try.f4.ntmps code = true := by kernel_rfl
theorem run_eq (a0 a1 : AV) : pureOf Go.Proofs.Try.prog CC (draws Go.Proofs.Try.prog CC) K Go.Proofs.Try.f4 code [a0, a1] = law06_CoreOne a0 a1 := by
  unfold pureOf arun
  rw [if_pos (show [a0, a1].length ≤ Go.Proofs.Try.f4.ntmps from (by decide +kernel : 2 ≤ Go.Proofs.Try.f4.ntmps))]
  unfold afin
  rw [show acode Go.Proofs.Try.prog CC (draws Go.Proofs.Try.prog CC) K code (args0 [a0, a1]) AHeap.empty = body ref02_Put.spec law06_lives.spec ref02_Reads.spec mem_New.spec core_Step.spec ref02_Writes.spec mem_Mem_Words.spec ref05_Same.spec (args0 [a0, a1]) AHeap.empty from body_eq ref02_Put.spec law06_lives.spec ref02_Reads.spec mem_New.spec core_Step.spec ref02_Writes.spec mem_Mem_Words.spec ref05_Same.spec _ _]
  kernel_rfl
theorem sound : Sound Go.Proofs.Try.prog 4 (.pure false spec) := by
  refine (sound_pure CS Mixed (draws _ _) K hf hb hok callable).less fun args r h => ?_
  unfold spec at h
  split at h
  · rw [run_eq]; exact h
  · cases h
end law06_CoreOne
end Go.Abs
