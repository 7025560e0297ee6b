/-
  That the program's functions are these. Printed by gen.py.
-/
import Derived.Test.YtncablokgkejjaaLrF
import Derived.Test.YtncablokgkejjaaCrP
import Derived.Test.YtncablokgkejjaaLoP
set_option linter.unusedSimpArgs false
set_option linter.unusedVariables false
namespace Go.Abs
namespace ref07_Control
noncomputable def code : Code := match Go.Proofs.Try.f32.body with | some c => c | none => .skip
end ref07_Control
namespace ref07_Step
noncomputable def code : Code := match Go.Proofs.Try.f36.body with | some c => c | none => .skip
def K : Nat → List Nat
  | 0 => [1, 2, 4, 5]
  | 1 => [1, 2, 4, 5, 8]
  | 2 => [1, 2, 4, 5, 8, 9, 10, 11]
  | 3 => [1, 2, 4, 5, 8, 9, 10, 11, 33]
  | 4 => [4, 5, 6, 7]
  | 5 => [2, 4, 5, 8, 9, 10, 12]
  | 6 => [2, 4, 5, 8, 9, 10, 12, 14]
  | 7 => [2, 4, 5, 9, 10, 14, 16]
  | 8 => [2, 4, 5, 9, 10, 14, 16, 17, 18]
  | 9 => [2, 4, 5, 9, 10, 14, 16, 17, 18, 77]
  | 10 => [2, 4, 5, 9, 10, 14, 16, 17, 18]
  | 11 => [2, 4, 5, 9, 10, 14, 16, 17, 18, 97]
  | 12 => [2, 4, 5, 9, 10, 14, 16, 17, 18]
  | 13 => [2, 4, 5, 9, 10, 14, 16, 17, 18, 109]
  | 14 => [2, 4, 5, 9, 10, 14, 16, 17, 18]
  | 15 => [2, 4, 5, 9, 10, 14, 16, 17, 18, 129]
  | 16 => [2, 4, 5, 9, 10, 14, 16, 17, 18]
  | 17 => [2, 4, 5, 9, 10, 14, 16, 17, 18, 149]
  | 18 => [2, 4, 5, 9, 10, 14, 16, 17, 18]
  | 19 => [2, 4, 5, 9, 10, 14, 16, 17, 18, 157]
  | 20 => [2, 4, 5, 9, 10, 14, 16, 17, 18]
  | 21 => [2, 4, 5, 9, 10, 14, 16, 17, 18]
  | 22 => [2, 4, 5, 9, 10, 14, 16, 17, 18, 173]
  | 23 => [2, 4, 5, 9, 10, 14, 16, 17, 18]
  | 24 => [2, 4, 5, 9, 10, 14, 16, 17, 18, 188]
  | 25 => [2, 4, 5, 9, 10, 14, 16, 17, 18]
  | 26 => [2, 4, 5, 9, 10, 14, 16, 17, 18, 202]
  | 27 => [2, 4, 5, 9, 10, 14, 16, 17]
  | 28 => [2, 4, 5, 9, 10, 14, 16, 17]
  | 29 => [2, 4, 5, 9, 10, 14, 16, 17, 19, 20]
  | 30 => [2, 4, 5, 9, 10, 14, 16, 17, 19, 233]
  | 31 => [4, 5, 9, 10, 14, 16, 17]
  | 32 => [4, 5, 9, 10, 14, 16, 17, 249]
  | 33 => [4, 5, 9, 10, 14, 16, 17]
  | 34 => [4, 5, 9, 10, 14, 16, 17, 263]
  | 35 => [4, 5, 9, 10, 14, 16, 17]
  | 36 => [4, 5, 9, 10, 14, 16, 17, 276]
  | 37 => [4, 5, 9, 10, 14, 16, 17]
  | 38 => [4, 5, 9, 10, 16, 289]
  | 39 => [4, 5, 9, 10, 16]
  | 40 => [4, 5, 6, 7]
  | _ => []
noncomputable def CC : Tab := C ref06_Step.spec ref05_Mem_Fetch.spec ref02_Take.spec ref02_Writes.spec
theorem CS : CC.Sound Go.Proofs.Try.prog := ((((Tab.Sound.none.add ref06_Step.sound).add ref05_Mem_Fetch.sound).add ref02_Take.sound).add ref02_Writes.sound)
theorem body_eq (s0 s1 : SpecM) (s2 s3 : SpecP) (fr : AFr) (H : AHeap) : acode Go.Proofs.Try.prog (C s0 s1 s2 s3) (draws Go.Proofs.Try.prog (C s0 s1 s2 s3)) K code fr H = body s0 s1 s2 s3 fr H := by kernel_rfl
theorem callable : Callable Go.Proofs.Try.prog 36 := fun args w => Go.Proofs.Try.call36 args w
theorem hf : Go.Proofs.Try.prog.funcs[36]? = some Go.Proofs.Try.f36 := Go.Proofs.Try.func36
theorem hb : Go.Proofs.Try.f36.body = some code := by kernel_rfl
theorem hok : codeOk Go.Proofs.Try.f36.ntmps code = true := by kernel_rfl
theorem run_eq (a0 a1 : AV) (H : AHeap) : refT Go.Proofs.Try.prog CC (draws Go.Proofs.Try.prog CC) K Go.Proofs.Try.f36 code [a0, a1] H = ref07_Step a0 a1 H := by
  unfold refT arun
  rw [if_pos (show [a0, a1].length ≤ Go.Proofs.Try.f36.ntmps from (by decide +kernel : 2 ≤ Go.Proofs.Try.f36.ntmps))]
  unfold afin
  rw [show acode Go.Proofs.Try.prog CC (draws Go.Proofs.Try.prog CC) K code (args0 [a0, a1]) H = body ref06_Step.spec ref05_Mem_Fetch.spec ref02_Take.spec ref02_Writes.spec (args0 [a0, a1]) H from body_eq ref06_Step.spec ref05_Mem_Fetch.spec ref02_Take.spec ref02_Writes.spec _ _]
  kernel_rfl
theorem sound : Sound Go.Proofs.Try.prog 36 (.ref [true, false] spec) := by
  refine (sound_refT CS Mixed (draws _ _) K hf hb hok callable [true, false]).lessR fun args H r h => ?_
  unfold spec at h
  split at h
  · rw [run_eq]; exact h
  · cases h
end ref07_Step
end Go.Abs
