/-
  That the program's functions are these. Printed by gen.py.
-/
import Derived.Test.YtncablokgkejjaaLeF
import Derived.Test.YtncablokgkejjaaLoP
import Derived.Test.YtncablokgkejjaaCoP
set_option linter.unusedSimpArgs false
set_option linter.unusedVariables false
namespace Go.Abs
namespace leak_operands
noncomputable def code : Code := match Go.Proofs.Try.f68.body with | some c => c | none => .skip
def K : Nat → List Nat
  | 0 => [2, 3]
  | 1 => [2, 3, 12]
  | 2 => [4, 5]
  | 3 => [2, 3, 6]
  | 4 => [3, 6, 7, 8, 9]
  | 5 => [6, 7, 8, 9, 32]
  | 6 => [6, 7, 8, 9, 32, 33]
  | 7 => [4, 5]
  | 8 => [6, 7, 8, 9, 32, 36]
  | 9 => [6, 7, 8, 9, 32, 36]
  | 10 => [6, 7, 8, 9, 32, 36]
  | 11 => [4, 5]
  | 12 => [6, 7, 8, 9, 32, 42]
  | 13 => [6, 7, 8, 9, 32, 42]
  | 14 => [6, 7, 8, 9, 32, 42]
  | 15 => [4, 5]
  | 16 => [6, 7, 8, 9, 32, 48]
  | 17 => [6, 7, 8, 9, 32, 48]
  | 18 => [6, 7, 8, 9, 32, 48]
  | 19 => [4, 5]
  | 20 => [6, 7, 8, 9, 32, 54]
  | 21 => [6, 7, 8, 9, 32, 54]
  | 22 => [4, 5]
  | 23 => [6, 7, 8, 9, 32, 59]
  | 24 => [4, 5]
  | 25 => [6, 7, 8, 32, 63]
  | 26 => [4, 5]
  | 27 => [7, 32, 68]
  | 28 => [7, 68]
  | 29 => [4, 5]
  | 30 => [4, 5]
  | _ => []
noncomputable def CC : Tab := C
theorem CS : CC.Sound Go.Proofs.Try.prog := Tab.Sound.none
theorem body_eq (fr : AFr) (H : AHeap) : acode Go.Proofs.Try.prog C (draws Go.Proofs.Try.prog C) K code fr H = body fr H := by kernel_rfl
theorem callable : Callable Go.Proofs.Try.prog 68 := fun args w => Go.Proofs.Try.call68 args w
theorem hf : Go.Proofs.Try.prog.funcs[68]? = some Go.Proofs.Try.f68 := Go.Proofs.Try.func68
theorem hb : Go.Proofs.Try.f68.body = some code := by kernel_rfl
theorem hok : codeOk Go.Proofs.Try.f68.ntmps code = true := by kernel_rfl
theorem run_eq (a0 a1 : AV) : pureOf Go.Proofs.Try.prog CC (draws Go.Proofs.Try.prog CC) K Go.Proofs.Try.f68 code [a0, a1] = leak_operands a0 a1 := by
  unfold pureOf arun
  rw [if_pos (show [a0, a1].length ≤ Go.Proofs.Try.f68.ntmps from (by decide +kernel : 2 ≤ Go.Proofs.Try.f68.ntmps))]
  unfold afin
  rw [show acode Go.Proofs.Try.prog CC (draws Go.Proofs.Try.prog CC) K code (args0 [a0, a1]) AHeap.empty = body (args0 [a0, a1]) AHeap.empty from body_eq _ _]
  kernel_rfl
theorem sound : Sound Go.Proofs.Try.prog 68 (.pure false spec) := by
  refine (sound_pure CS Mixed (draws _ _) K hf hb hok callable).less fun args r h => ?_
  unfold spec at h
  split at h
  · rw [run_eq]; exact h
  · cases h
end leak_operands
namespace leak_place
noncomputable def code : Code := match Go.Proofs.Try.f69.body with | some c => c | none => .skip
def K : Nat → List Nat
  | 0 => [2, 3]
  | 1 => [2, 3, 7]
  | 2 => [2, 3, 7, 8]
  | 3 => [2, 3, 7, 8]
  | 4 => [4, 5]
  | 5 => [2, 3, 7, 21]
  | 6 => [2, 3, 7, 21]
  | 7 => [4, 5]
  | 8 => [2, 3, 35]
  | 9 => [4, 5]
  | 10 => [4, 5]
  | _ => []
noncomputable def CC : Tab := C
theorem CS : CC.Sound Go.Proofs.Try.prog := Tab.Sound.none
theorem body_eq (fr : AFr) (H : AHeap) : acode Go.Proofs.Try.prog C (draws Go.Proofs.Try.prog C) K code fr H = body fr H := by kernel_rfl
theorem callable : Callable Go.Proofs.Try.prog 69 := fun args w => Go.Proofs.Try.call69 args w
theorem hf : Go.Proofs.Try.prog.funcs[69]? = some Go.Proofs.Try.f69 := Go.Proofs.Try.func69
theorem hb : Go.Proofs.Try.f69.body = some code := by kernel_rfl
theorem hok : codeOk Go.Proofs.Try.f69.ntmps code = true := by kernel_rfl
theorem run_eq (a0 a1 : AV) : pureOf Go.Proofs.Try.prog CC (draws Go.Proofs.Try.prog CC) K Go.Proofs.Try.f69 code [a0, a1] = leak_place a0 a1 := by
  unfold pureOf arun
  rw [if_pos (show [a0, a1].length ≤ Go.Proofs.Try.f69.ntmps from (by decide +kernel : 2 ≤ Go.Proofs.Try.f69.ntmps))]
  unfold afin
  rw [show acode Go.Proofs.Try.prog CC (draws Go.Proofs.Try.prog CC) K code (args0 [a0, a1]) AHeap.empty = body (args0 [a0, a1]) AHeap.empty from body_eq _ _]
  kernel_rfl
theorem sound : Sound Go.Proofs.Try.prog 69 (.pure false spec) := by
  refine (sound_pure CS Mixed (draws _ _) K hf hb hok callable).less fun args r h => ?_
  unfold spec at h
  split at h
  · rw [run_eq]; exact h
  · cases h
end leak_place
namespace leak_flagged
noncomputable def code : Code := match Go.Proofs.Try.f70.body with | some c => c | none => .skip
def K : Nat → List Nat
  | 0 => [1, 2, 3]
  | 1 => [1, 2, 3, 7]
  | 2 => [1, 2, 3, 7]
  | 3 => [6]
  | 4 => [1, 2, 3, 22]
  | 5 => [6]
  | 6 => [1, 2, 34]
  | 7 => [6]
  | 8 => [6]
  | _ => []
noncomputable def CC : Tab := C
theorem CS : CC.Sound Go.Proofs.Try.prog := Tab.Sound.none
theorem body_eq (fr : AFr) (H : AHeap) : acode Go.Proofs.Try.prog C (draws Go.Proofs.Try.prog C) K code fr H = body fr H := by kernel_rfl
theorem callable : Callable Go.Proofs.Try.prog 70 := fun args w => Go.Proofs.Try.call70 args w
theorem hf : Go.Proofs.Try.prog.funcs[70]? = some Go.Proofs.Try.f70 := Go.Proofs.Try.func70
theorem hb : Go.Proofs.Try.f70.body = some code := by kernel_rfl
theorem hok : codeOk Go.Proofs.Try.f70.ntmps code = true := by kernel_rfl
theorem run_eq (a0 a1 a2 : AV) : pureOf Go.Proofs.Try.prog CC (draws Go.Proofs.Try.prog CC) K Go.Proofs.Try.f70 code [a0, a1, a2] = leak_flagged a0 a1 a2 := by
  unfold pureOf arun
  rw [if_pos (show [a0, a1, a2].length ≤ Go.Proofs.Try.f70.ntmps from (by decide +kernel : 3 ≤ Go.Proofs.Try.f70.ntmps))]
  unfold afin
  rw [show acode Go.Proofs.Try.prog CC (draws Go.Proofs.Try.prog CC) K code (args0 [a0, a1, a2]) AHeap.empty = body (args0 [a0, a1, a2]) AHeap.empty from body_eq _ _]
  kernel_rfl
theorem sound : Sound Go.Proofs.Try.prog 70 (.pure false spec) := by
  refine (sound_pure CS Mixed (draws _ _) K hf hb hok callable).less fun args r h => ?_
  unfold spec at h
  split at h
  · rw [run_eq]; exact h
  · cases h
end leak_flagged
namespace leak_Step
noncomputable def code : Code := match Go.Proofs.Try.f28.body with | some c => c | none => .skip
def K : Nat → List Nat
  | 0 => [1, 2, 4, 5]
  | 1 => [1, 2, 4, 5, 8]
  | 2 => [1, 2, 4, 5, 8, 21]
  | 3 => [1, 2, 4, 5, 8]
  | 4 => [1, 2, 4, 5, 8, 9, 10, 11]
  | 5 => [1, 2, 4, 5, 8, 9, 10, 11, 32]
  | 6 => [4, 5, 6, 7]
  | 7 => [2, 4, 5, 8, 9, 10, 12]
  | 8 => [2, 4, 5, 8, 9, 10, 12, 14]
  | 9 => [2, 4, 5, 9, 10, 14, 16]
  | 10 => [2, 4, 5, 9, 10, 14, 16]
  | 11 => [2, 4, 5, 9, 10, 14, 16]
  | 12 => [2, 4, 5, 9, 10, 14, 16, 17]
  | 13 => [2, 4, 5, 9, 10, 14, 16, 17]
  | 14 => [2, 4, 5, 9, 10, 14, 16, 17, 18, 19]
  | 15 => [2, 4, 5, 9, 10, 14, 16, 17, 18, 95]
  | 16 => [4, 5, 9, 10, 16]
  | 17 => [4, 5, 9, 10, 14, 16, 106]
  | 18 => [4, 5, 9, 10, 16]
  | 19 => [4, 5, 9, 10, 16]
  | 20 => [4, 5, 6, 7]
  | _ => []
noncomputable def CC : Tab := C mem_Mem_Bus.spec core_Step.spec mem_Mem_Fetch.spec thumb_Take.spec leak_operands.spec leak_place.spec thumb_Writes.spec leak_flagged.spec
theorem CS : CC.Sound Go.Proofs.Try.prog := ((((((((Tab.Sound.none.add mem_Mem_Bus.sound).add core_Step.sound).add mem_Mem_Fetch.sound).add thumb_Take.sound).add leak_operands.sound).add leak_place.sound).add thumb_Writes.sound).add leak_flagged.sound)
theorem body_eq (s0 s1 s2 : SpecM) (s3 s4 s5 s6 s7 : SpecP) (fr : AFr) (H : AHeap) : acode Go.Proofs.Try.prog (C s0 s1 s2 s3 s4 s5 s6 s7) (draws Go.Proofs.Try.prog (C s0 s1 s2 s3 s4 s5 s6 s7)) K code fr H = body s0 s1 s2 s3 s4 s5 s6 s7 fr H := by kernel_rfl
theorem callable : Callable Go.Proofs.Try.prog 28 := fun args w => Go.Proofs.Try.call28 args w
theorem hf : Go.Proofs.Try.prog.funcs[28]? = some Go.Proofs.Try.f28 := Go.Proofs.Try.func28
theorem hb : Go.Proofs.Try.f28.body = some code := by kernel_rfl
theorem hok : codeOk Go.Proofs.Try.f28.ntmps code = true := by kernel_rfl
theorem run_eq (a0 a1 : AV) (H : AHeap) : refT Go.Proofs.Try.prog CC (draws Go.Proofs.Try.prog CC) K Go.Proofs.Try.f28 code [a0, a1] H = leak_Step a0 a1 H := by
  unfold refT arun
  rw [if_pos (show [a0, a1].length ≤ Go.Proofs.Try.f28.ntmps from (by decide +kernel : 2 ≤ Go.Proofs.Try.f28.ntmps))]
  unfold afin
  rw [show acode Go.Proofs.Try.prog CC (draws Go.Proofs.Try.prog CC) K code (args0 [a0, a1]) H = body mem_Mem_Bus.spec core_Step.spec mem_Mem_Fetch.spec thumb_Take.spec leak_operands.spec leak_place.spec thumb_Writes.spec leak_flagged.spec (args0 [a0, a1]) H from body_eq mem_Mem_Bus.spec core_Step.spec mem_Mem_Fetch.spec thumb_Take.spec leak_operands.spec leak_place.spec thumb_Writes.spec leak_flagged.spec _ _]
  kernel_rfl
theorem sound : Sound Go.Proofs.Try.prog 28 (.ref [true, false] spec) := by
  refine (sound_refT CS Mixed (draws _ _) K hf hb hok callable [true, false]).lessR fun args H r h => ?_
  unfold spec at h
  split at h
  · rw [run_eq]; exact h
  · cases h
end leak_Step
end Go.Abs
