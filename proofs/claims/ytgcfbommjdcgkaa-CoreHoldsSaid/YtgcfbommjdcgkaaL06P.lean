/-
  That the program's functions are these. Printed by gen.py.
-/
import Derived.Test.YtgcfbommjdcgkaaL06F
import Derived.Test.YtgcfbommjdcgkaaLoP
import Derived.Test.YtgcfbommjdcgkaaCoP
import Derived.Test.YtgcfbommjdcgkaaCrP
set_option linter.unusedSimpArgs false
set_option linter.unusedVariables false
namespace Go.Abs
/-! bauta/bautalaw06.lives -/
namespace law06_lives
noncomputable def code : Code := match Go.Proofs.Try.f23.body with | some c => c | none => .skip
def K : Nat → List Nat
  | 0 => []
  | 1 => [1]
  | 2 => [2, 3, 4]
  | 3 => [0]
  | _ => []
noncomputable def CC : Tab := C mem_New.spec core_Step.spec
theorem CS : CC.Sound Go.Proofs.Try.prog := ((Tab.Sound.none.add mem_New.sound).add core_Step.sound)
theorem body_eq (s0 s1 : SpecM) (fr : AFr) (H : AHeap) : acode Go.Proofs.Try.prog (C s0 s1) (draws Go.Proofs.Try.prog (C s0 s1)) K code fr H = body s0 s1 fr H := by kernel_rfl
theorem callable : Callable Go.Proofs.Try.prog 23 := fun args w => Go.Proofs.Try.call23 args w
theorem hf : Go.Proofs.Try.prog.funcs[23]? = some Go.Proofs.Try.f23 := Go.Proofs.Try.func23
theorem hb : Go.Proofs.Try.f23.body = some code := by kernel_rfl
theorem hok : codeOk Go.Proofs.Try.f23.ntmps code = true := by kernel_rfl
theorem run_eq : pureOf Go.Proofs.Try.prog CC (draws Go.Proofs.Try.prog CC) K Go.Proofs.Try.f23 code [] = law06_lives := by
  unfold pureOf arun
  rw [if_pos (show [].length ≤ Go.Proofs.Try.f23.ntmps from (by decide +kernel : 0 ≤ Go.Proofs.Try.f23.ntmps))]
  unfold afin
  rw [show acode Go.Proofs.Try.prog CC (draws Go.Proofs.Try.prog CC) K code (args0 []) AHeap.empty = body mem_New.spec core_Step.spec (args0 []) AHeap.empty from body_eq mem_New.spec core_Step.spec _ _]
  kernel_rfl
theorem sound : Sound Go.Proofs.Try.prog 23 (.pure false spec) := by
  refine (sound_pure CS Mixed (draws _ _) K hf hb hok callable).less fun args r h => ?_
  unfold spec at h
  split at h
  · rw [run_eq]; exact h
  · cases h
end law06_lives

/-! bauta/bautalaw06.CoreHolds -/
namespace law06_CoreHolds
noncomputable def code : Code := match Go.Proofs.Try.f9.body with | some c => c | none => .skip
def K : Nat → List Nat
  | 0 => [0, 2, 4]
  | 1 => [6]
  | _ => []
noncomputable def CC : Tab := C core_Holds.spec ref06_Holds.spec core_Flags.spec ref06_Flags.spec law06_lives.spec
theorem CS : CC.Sound Go.Proofs.Try.prog := (((((Tab.Sound.none.add core_Holds.sound).add ref06_Holds.sound).add core_Flags.sound).add ref06_Flags.sound).add law06_lives.sound)
theorem body_eq (s0 s1 s2 s3 s4 : SpecP) (fr : AFr) (H : AHeap) : acode Go.Proofs.Try.prog (C s0 s1 s2 s3 s4) (draws Go.Proofs.Try.prog (C s0 s1 s2 s3 s4)) K code fr H = body s0 s1 s2 s3 s4 fr H := by kernel_rfl
theorem callable : Callable Go.Proofs.Try.prog 9 := fun args w => Go.Proofs.Try.call9 args w
theorem hf : Go.Proofs.Try.prog.funcs[9]? = some Go.Proofs.Try.f9 := Go.Proofs.Try.func9
theorem hb : Go.Proofs.Try.f9.body = some code := by kernel_rfl
theorem hok : codeOk Go.Proofs.Try.f9.ntmps code = true := by kernel_rfl
theorem run_eq (a0 a1 a2 : AV) : pureOf Go.Proofs.Try.prog CC (draws Go.Proofs.Try.prog CC) K Go.Proofs.Try.f9 code [a0, a1, a2] = law06_CoreHolds a0 a1 a2 := by
  unfold pureOf arun
  rw [if_pos (show [a0, a1, a2].length ≤ Go.Proofs.Try.f9.ntmps from (by decide +kernel : 3 ≤ Go.Proofs.Try.f9.ntmps))]
  unfold afin
  rw [show acode Go.Proofs.Try.prog CC (draws Go.Proofs.Try.prog CC) K code (args0 [a0, a1, a2]) AHeap.empty = body core_Holds.spec ref06_Holds.spec core_Flags.spec ref06_Flags.spec law06_lives.spec (args0 [a0, a1, a2]) AHeap.empty from body_eq core_Holds.spec ref06_Holds.spec core_Flags.spec ref06_Flags.spec law06_lives.spec _ _]
  kernel_rfl
theorem sound : Sound Go.Proofs.Try.prog 9 (.pure false spec) := by
  refine (sound_pure CS Mixed (draws _ _) K hf hb hok callable).less fun args r h => ?_
  unfold spec at h
  split at h
  · rw [run_eq]; exact h
  · cases h
end law06_CoreHolds

/-! bauta/bautalaw06.CoreRuns -/
namespace law06_CoreRuns
noncomputable def code : Code := match Go.Proofs.Try.f7.body with | some c => c | none => .skip
def K : Nat → List Nat
  | 0 => [0, 2, 4]
  | 1 => [0, 2, 4, 18]
  | 2 => [0, 2, 4]
  | 3 => [0, 2, 4, 23]
  | 4 => [0, 2, 4]
  | 5 => [4, 7, 8]
  | 6 => [4, 7, 8, 37]
  | 7 => [6]
  | 8 => [4, 7, 8]
  | 9 => [4, 7, 8, 9]
  | 10 => [4, 7, 8, 9, 40]
  | 12 => [4, 7, 8, 9, 10, 11, 12]
  | 13 => [4, 7, 8, 9, 10, 11, 12, 13, 14, 15]
  | 14 => [4, 7, 8, 9, 10, 11, 12, 79]
  | 15 => [6]
  | 16 => [4, 7, 8, 9, 10, 84]
  | 17 => [6]
  | 18 => [4, 7, 8, 9]
  | 11 => [4, 7, 8, 9]
  | 19 => [6]
  | _ => []
noncomputable def CC : Tab := C mem_New.spec ref05_New.spec core_Step.spec ref06_Step.spec mem_Mem_Words.spec ref05_Same.spec law06_lives.spec
theorem CS : CC.Sound Go.Proofs.Try.prog := (((((((Tab.Sound.none.add mem_New.sound).add ref05_New.sound).add core_Step.sound).add ref06_Step.sound).add mem_Mem_Words.sound).add ref05_Same.sound).add law06_lives.sound)
theorem body_eq (s0 s1 s2 s3 s4 : SpecM) (s5 s6 : SpecP) (fr : AFr) (H : AHeap) : acode Go.Proofs.Try.prog (C s0 s1 s2 s3 s4 s5 s6) (draws Go.Proofs.Try.prog (C s0 s1 s2 s3 s4 s5 s6)) K code fr H = body s0 s1 s2 s3 s4 s5 s6 fr H := by kernel_rfl
theorem callable : Callable Go.Proofs.Try.prog 7 := fun args w => Go.Proofs.Try.call7 args w
theorem hf : Go.Proofs.Try.prog.funcs[7]? = some Go.Proofs.Try.f7 := Go.Proofs.Try.func7
theorem hb : Go.Proofs.Try.f7.body = some code := by kernel_rfl
theorem hok : codeOk Go.Proofs.Try.f7.ntmps code = true := by kernel_rfl
theorem run_eq (a0 a1 a2 : AV) : pureOf Go.Proofs.Try.prog CC (draws Go.Proofs.Try.prog CC) K Go.Proofs.Try.f7 code [a0, a1, a2] = law06_CoreRuns a0 a1 a2 := by
  unfold pureOf arun
  rw [if_pos (show [a0, a1, a2].length ≤ Go.Proofs.Try.f7.ntmps from (by decide +kernel : 3 ≤ Go.Proofs.Try.f7.ntmps))]
  unfold afin
  rw [show acode Go.Proofs.Try.prog CC (draws Go.Proofs.Try.prog CC) K code (args0 [a0, a1, a2]) AHeap.empty = body mem_New.spec ref05_New.spec core_Step.spec ref06_Step.spec mem_Mem_Words.spec ref05_Same.spec law06_lives.spec (args0 [a0, a1, a2]) AHeap.empty from body_eq mem_New.spec ref05_New.spec core_Step.spec ref06_Step.spec mem_Mem_Words.spec ref05_Same.spec law06_lives.spec _ _]
  kernel_rfl
theorem sound : Sound Go.Proofs.Try.prog 7 (.pure false spec) := by
  refine (sound_pure CS Mixed (draws _ _) K hf hb hok callable).less fun args r h => ?_
  unfold spec at h
  split at h
  · rw [run_eq]; exact h
  · cases h
end law06_CoreRuns

end Go.Abs
