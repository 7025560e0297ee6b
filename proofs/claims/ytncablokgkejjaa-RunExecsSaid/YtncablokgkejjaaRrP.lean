/-
  That the program's functions are these. Printed by gen.py.
-/
import Derived.Test.YtncablokgkejjaaRrF
import Derived.Test.YtncablokgkejjaaLoP
import Derived.Test.YtncablokgkejjaaLrP
set_option linter.unusedSimpArgs false
set_option linter.unusedVariables false
namespace Go.Abs
namespace ref08_Same
noncomputable def code : Code := match Go.Proofs.Try.f40.body with | some c => c | none => .skip
def K : Nat → List Nat
  | 0 => [2, 3]
  | 1 => [2, 3, 41]
  | 2 => [4]
  | 3 => [2, 3, 5]
  | 4 => [2, 3, 5, 46]
  | 6 => [2, 3, 5, 59]
  | 7 => [4]
  | 5 => [2, 3, 5]
  | 8 => [4]
  | _ => []
noncomputable def CC : Tab := C ref05_Same.spec
theorem CS : CC.Sound Go.Proofs.Try.prog := (Tab.Sound.none.add ref05_Same.sound)
theorem body_eq (s0 : SpecP) (fr : AFr) (H : AHeap) : acode Go.Proofs.Try.prog (C s0) (draws Go.Proofs.Try.prog (C s0)) K code fr H = body s0 fr H := by kernel_rfl
theorem callable : Callable Go.Proofs.Try.prog 40 := fun args w => Go.Proofs.Try.call40 args w
theorem hf : Go.Proofs.Try.prog.funcs[40]? = some Go.Proofs.Try.f40 := Go.Proofs.Try.func40
theorem hb : Go.Proofs.Try.f40.body = some code := by kernel_rfl
theorem hok : codeOk Go.Proofs.Try.f40.ntmps code = true := by kernel_rfl
theorem run_eq (a0 a1 : AV) : pureOf Go.Proofs.Try.prog CC (draws Go.Proofs.Try.prog CC) K Go.Proofs.Try.f40 code [a0, a1] = ref08_Same a0 a1 := by
  unfold pureOf arun
  rw [if_pos (show [a0, a1].length ≤ Go.Proofs.Try.f40.ntmps from (by decide +kernel : 2 ≤ Go.Proofs.Try.f40.ntmps))]
  unfold afin
  rw [show acode Go.Proofs.Try.prog CC (draws Go.Proofs.Try.prog CC) K code (args0 [a0, a1]) AHeap.empty = body ref05_Same.spec (args0 [a0, a1]) AHeap.empty from body_eq ref05_Same.spec _ _]
  kernel_rfl
theorem sound : Sound Go.Proofs.Try.prog 40 (.pure false spec) := by
  refine (sound_pure CS Mixed (draws _ _) K hf hb hok callable).less fun args r h => ?_
  unfold spec at h
  split at h
  · rw [run_eq]; exact h
  · cases h
end ref08_Same
namespace ref08_Exec
noncomputable def code : Code := match Go.Proofs.Try.f42.body with | some c => c | none => .skip
def K : Nat → List Nat
  | 0 => [0, 1, 2, 3, 8]
  | 1 => [1, 3, 8, 9, 10]
  | 2 => [1, 3, 8, 9, 10, 11]
  | 3 => [1, 3, 8, 9, 10, 11, 30]
  | 5 => [1, 3, 8, 9, 10, 11]
  | 4 => [1, 3, 8, 9, 10, 11]
  | 6 => [3, 8, 9, 10, 44]
  | 7 => [3, 8, 9, 10]
  | 8 => [3, 8, 9, 10, 12]
  | 9 => [3, 8, 9, 10, 12, 13]
  | 10 => [3, 8, 9, 10, 12, 13, 52]
  | 11 => [3, 8, 9, 10, 12, 13, 14, 15, 16, 17]
  | 12 => [3, 8, 9, 10, 12, 13, 14, 15, 16, 17, 62]
  | 13 => [3, 8, 9, 10, 12, 13]
  | 14 => [3, 8, 9, 10, 12, 13, 16]
  | 15 => [3, 8, 9, 10, 12, 13, 76]
  | 16 => [3, 8, 9, 10, 12, 13]
  | 17 => [8, 12]
  | 18 => [8]
  | _ => []
noncomputable def CC : Tab := C ref05_New.spec ref07_Step.spec
theorem CS : CC.Sound Go.Proofs.Try.prog := ((Tab.Sound.none.add ref05_New.sound).add ref07_Step.sound)
theorem body_eq (s0 s1 : SpecM) (fr : AFr) (H : AHeap) : acode Go.Proofs.Try.prog (C s0 s1) (draws Go.Proofs.Try.prog (C s0 s1)) K code fr H = body s0 s1 fr H := by kernel_rfl
theorem callable : Callable Go.Proofs.Try.prog 42 := fun args w => Go.Proofs.Try.call42 args w
theorem hf : Go.Proofs.Try.prog.funcs[42]? = some Go.Proofs.Try.f42 := Go.Proofs.Try.func42
theorem hb : Go.Proofs.Try.f42.body = some code := by kernel_rfl
theorem hok : codeOk Go.Proofs.Try.f42.ntmps code = true := by kernel_rfl
theorem run_eq (a0 a1 a2 a3 : AV) : pureOf Go.Proofs.Try.prog CC (draws Go.Proofs.Try.prog CC) K Go.Proofs.Try.f42 code [a0, a1, a2, a3] = ref08_Exec a0 a1 a2 a3 := by
  unfold pureOf arun
  rw [if_pos (show [a0, a1, a2, a3].length ≤ Go.Proofs.Try.f42.ntmps from (by decide +kernel : 4 ≤ Go.Proofs.Try.f42.ntmps))]
  unfold afin
  rw [show acode Go.Proofs.Try.prog CC (draws Go.Proofs.Try.prog CC) K code (args0 [a0, a1, a2, a3]) AHeap.empty = body ref05_New.spec ref07_Step.spec (args0 [a0, a1, a2, a3]) AHeap.empty from body_eq ref05_New.spec ref07_Step.spec _ _]
  kernel_rfl
theorem sound : Sound Go.Proofs.Try.prog 42 (.pure false spec) := by
  refine (sound_pure CS Mixed (draws _ _) K hf hb hok callable).less fun args r h => ?_
  unfold spec at h
  split at h
  · rw [run_eq]; exact h
  · cases h
end ref08_Exec
end Go.Abs
