import Derived.Test.YthignlpdeaglaaaLoF
import Derived.Test.YthignlpdeaglaaaP0
section
set_option linter.unusedSimpArgs false
set_option linter.unusedVariables false
end
section
set_option linter.unusedSimpArgs false
set_option linter.unusedVariables false
namespace Go.Abs
namespace ref02_Same
noncomputable def code : Code := match Go.Proofs.Try.f21.body with | some c => c | none => .skip
def K : Nat → List Nat
  | 0 => [0, 1]
  | 1 => [0, 1, 10]
  | 2 => [4]
  | 3 => [0, 1, 5]
  | 4 => [0, 1, 5, 14]
  | 6 => [0, 1, 5, 25]
  | 7 => [4]
  | 5 => [0, 1, 5]
  | 8 => [4]
  | _ => []
noncomputable def CC : Tab := C
theorem CS : CC.Sound Go.Proofs.Try.prog := Tab.Sound.none
theorem body_eq (fr : AFr) (H : AHeap) : acode Go.Proofs.Try.prog C (draws Go.Proofs.Try.prog C) K code fr H = body fr H := by kernel_rfl
theorem callable : Callable Go.Proofs.Try.prog 21 := fun args w => Go.Proofs.Try.call21 args w
theorem hf : Go.Proofs.Try.prog.funcs[21]? = some Go.Proofs.Try.f21 := Go.Proofs.Try.func21
theorem hb : Go.Proofs.Try.f21.body = some code := by kernel_rfl
theorem hok : codeOk Go.Proofs.Try.f21.ntmps code = true := by kernel_rfl
theorem run_eq (a0 a1 : AV) : pureOf Go.Proofs.Try.prog CC (draws Go.Proofs.Try.prog CC) K Go.Proofs.Try.f21 code [a0, a1] = ref02_Same a0 a1 := by
  unfold pureOf arun
  rw [if_pos (show [a0, a1].length ≤ Go.Proofs.Try.f21.ntmps from (by decide +kernel : 2 ≤ Go.Proofs.Try.f21.ntmps))]
  unfold afin
  rw [show acode Go.Proofs.Try.prog CC (draws Go.Proofs.Try.prog CC) K code (args0 [a0, a1]) AHeap.empty = body (args0 [a0, a1]) AHeap.empty from body_eq _ _]
  kernel_rfl
theorem sound : Sound Go.Proofs.Try.prog 21 (.pure false spec) := by
  refine (sound_pure CS Mixed (draws _ _) K hf hb hok callable).less fun args r h => ?_
  unfold spec at h
  split at h
  · rw [run_eq]; exact h
  · cases h
end ref02_Same
end Go.Abs
end
section
set_option linter.unusedSimpArgs false
set_option linter.unusedVariables false
end
section
set_option linter.unusedSimpArgs false
set_option linter.unusedVariables false
end
section
set_option linter.unusedSimpArgs false
set_option linter.unusedVariables false
end
section
set_option linter.unusedSimpArgs false
set_option linter.unusedVariables false
namespace Go.Abs
namespace ref01_Bits
noncomputable def code : Code := match Go.Proofs.Try.f72.body with | some c => c | none => .skip
def K : Nat → List Nat
  | 0 => [0]
  | 1 => [0, 3]
  | 2 => [0, 3, 4]
  | 3 => [0, 3, 4, 7]
  | 5 => [0, 3, 4]
  | 6 => [0, 3, 4]
  | 4 => [0, 3, 4]
  | 7 => [2]
  | _ => []
noncomputable def CC : Tab := C
theorem CS : CC.Sound Go.Proofs.Try.prog := Tab.Sound.none
theorem body_eq (fr : AFr) (H : AHeap) : acode Go.Proofs.Try.prog C (draws Go.Proofs.Try.prog C) K code fr H = body fr H := by kernel_rfl
theorem callable : Callable Go.Proofs.Try.prog 72 := fun args w => Go.Proofs.Try.call72 args w
theorem hf : Go.Proofs.Try.prog.funcs[72]? = some Go.Proofs.Try.f72 := Go.Proofs.Try.func72
theorem hb : Go.Proofs.Try.f72.body = some code := by kernel_rfl
theorem hok : codeOk Go.Proofs.Try.f72.ntmps code = true := by kernel_rfl
theorem run_eq (a0 : AV) : pureOf Go.Proofs.Try.prog CC (draws Go.Proofs.Try.prog CC) K Go.Proofs.Try.f72 code [a0] = ref01_Bits a0 := by
  unfold pureOf arun
  rw [if_pos (show [a0].length ≤ Go.Proofs.Try.f72.ntmps from (by decide +kernel : 1 ≤ Go.Proofs.Try.f72.ntmps))]
  unfold afin
  rw [show acode Go.Proofs.Try.prog CC (draws Go.Proofs.Try.prog CC) K code (args0 [a0]) AHeap.empty = body (args0 [a0]) AHeap.empty from body_eq _ _]
  kernel_rfl
theorem sound : Sound Go.Proofs.Try.prog 72 (.pure false spec) := by
  refine (sound_pure CS Mixed (draws _ _) K hf hb hok callable).less fun args r h => ?_
  unfold spec at h
  split at h
  · rw [run_eq]; exact h
  · cases h
end ref01_Bits
namespace ref01_Word
noncomputable def code : Code := match Go.Proofs.Try.f73.body with | some c => c | none => .skip
def K : Nat → List Nat
  | 0 => [0]
  | 1 => [0, 3]
  | 2 => [0, 3, 4]
  | 3 => [0, 3, 4, 9]
  | 5 => [0, 3, 4]
  | 6 => [0, 3, 4, 17]
  | 7 => [0, 3, 4]
  | 4 => [0, 3, 4]
  | 8 => [2]
  | _ => []
noncomputable def CC : Tab := C
theorem CS : CC.Sound Go.Proofs.Try.prog := Tab.Sound.none
theorem body_eq (fr : AFr) (H : AHeap) : acode Go.Proofs.Try.prog C (draws Go.Proofs.Try.prog C) K code fr H = body fr H := by kernel_rfl
theorem callable : Callable Go.Proofs.Try.prog 73 := fun args w => Go.Proofs.Try.call73 args w
theorem hf : Go.Proofs.Try.prog.funcs[73]? = some Go.Proofs.Try.f73 := Go.Proofs.Try.func73
theorem hb : Go.Proofs.Try.f73.body = some code := by kernel_rfl
theorem hok : codeOk Go.Proofs.Try.f73.ntmps code = true := by kernel_rfl
theorem run_eq (a0 : AV) : pureOf Go.Proofs.Try.prog CC (draws Go.Proofs.Try.prog CC) K Go.Proofs.Try.f73 code [a0] = ref01_Word a0 := by
  unfold pureOf arun
  rw [if_pos (show [a0].length ≤ Go.Proofs.Try.f73.ntmps from (by decide +kernel : 1 ≤ Go.Proofs.Try.f73.ntmps))]
  unfold afin
  rw [show acode Go.Proofs.Try.prog CC (draws Go.Proofs.Try.prog CC) K code (args0 [a0]) AHeap.empty = body (args0 [a0]) AHeap.empty from body_eq _ _]
  kernel_rfl
theorem sound : Sound Go.Proofs.Try.prog 73 (.pure false spec) := by
  refine (sound_pure CS Mixed (draws _ _) K hf hb hok callable).less fun args r h => ?_
  unfold spec at h
  split at h
  · rw [run_eq]; exact h
  · cases h
end ref01_Word
namespace ref01_Shift
noncomputable def code : Code := match Go.Proofs.Try.f60.body with | some c => c | none => .skip
def K : Nat → List Nat
  | 0 => [0, 1, 2, 3]
  | 1 => [0, 1, 2, 3, 19]
  | 2 => [8, 9]
  | 3 => [0, 1, 2, 3, 25]
  | 4 => [0, 1, 2, 3]
  | 5 => [0, 2, 3, 10]
  | 6 => [0, 2, 3, 10, 11]
  | 7 => [0, 2, 3, 10, 11, 37]
  | 9 => [0, 2, 10, 11, 12]
  | 10 => [0, 2, 10, 11, 12, 13]
  | 11 => [0, 2, 10, 11, 12, 13, 42]
  | 13 => [0, 2, 10, 11, 12, 13, 50]
  | 14 => [0, 2, 10, 11, 12, 13]
  | 15 => [0, 2, 10, 11, 12, 13, 64]
  | 16 => [0, 2, 10, 11, 12, 13]
  | 12 => [0, 2, 10, 11, 12, 13]
  | 17 => [0, 2, 10, 11, 12, 74]
  | 18 => [0, 2, 3, 10, 11, 12]
  | 19 => [0, 2, 3, 10, 11, 12]
  | 20 => [0, 2, 3, 10, 11, 12, 82]
  | 21 => [0, 2, 3, 10, 11, 12]
  | 22 => [0, 2, 3, 10, 11, 12, 89]
  | 23 => [0, 2, 3, 11, 12]
  | 24 => [0, 2, 3, 10, 11]
  | 8 => [0, 2, 3, 10, 11]
  | 25 => [8, 9]
  | _ => []
noncomputable def CC : Tab := C ref01_Bits.spec ref01_Word.spec
theorem CS : CC.Sound Go.Proofs.Try.prog := ((Tab.Sound.none.add ref01_Bits.sound).add ref01_Word.sound)
theorem body_eq (s0 s1 : SpecP) (fr : AFr) (H : AHeap) : acode Go.Proofs.Try.prog (C s0 s1) (draws Go.Proofs.Try.prog (C s0 s1)) K code fr H = body s0 s1 fr H := by kernel_rfl
theorem callable : Callable Go.Proofs.Try.prog 60 := fun args w => Go.Proofs.Try.call60 args w
theorem hf : Go.Proofs.Try.prog.funcs[60]? = some Go.Proofs.Try.f60 := Go.Proofs.Try.func60
theorem hb : Go.Proofs.Try.f60.body = some code := by kernel_rfl
theorem hok : codeOk Go.Proofs.Try.f60.ntmps code = true := by kernel_rfl
theorem run_eq (a0 a1 a2 a3 : AV) : pureOf Go.Proofs.Try.prog CC (draws Go.Proofs.Try.prog CC) K Go.Proofs.Try.f60 code [a0, a1, a2, a3] = ref01_Shift a0 a1 a2 a3 := by
  unfold pureOf arun
  rw [if_pos (show [a0, a1, a2, a3].length ≤ Go.Proofs.Try.f60.ntmps from (by decide +kernel : 4 ≤ Go.Proofs.Try.f60.ntmps))]
  unfold afin
  rw [show acode Go.Proofs.Try.prog CC (draws Go.Proofs.Try.prog CC) K code (args0 [a0, a1, a2, a3]) AHeap.empty = body ref01_Bits.spec ref01_Word.spec (args0 [a0, a1, a2, a3]) AHeap.empty from body_eq ref01_Bits.spec ref01_Word.spec _ _]
  kernel_rfl
theorem sound : Sound Go.Proofs.Try.prog 60 (.pure false spec) := by
  refine (sound_pure CS Mixed (draws _ _) K hf hb hok callable).less fun args r h => ?_
  unfold spec at h
  split at h
  · rw [run_eq]; exact h
  · cases h
end ref01_Shift
namespace ref01_Rot
noncomputable def code : Code := match Go.Proofs.Try.f61.body with | some c => c | none => .skip
def K : Nat → List Nat
  | 0 => [0, 1]
  | 1 => [1, 5]
  | 2 => [1, 5, 6]
  | 3 => [1, 5, 6, 12]
  | 5 => [1, 5, 6]
  | 4 => [1, 5, 6]
  | 6 => [4]
  | _ => []
noncomputable def CC : Tab := C ref01_Bits.spec ref01_Word.spec
theorem CS : CC.Sound Go.Proofs.Try.prog := ((Tab.Sound.none.add ref01_Bits.sound).add ref01_Word.sound)
theorem body_eq (s0 s1 : SpecP) (fr : AFr) (H : AHeap) : acode Go.Proofs.Try.prog (C s0 s1) (draws Go.Proofs.Try.prog (C s0 s1)) K code fr H = body s0 s1 fr H := by kernel_rfl
theorem callable : Callable Go.Proofs.Try.prog 61 := fun args w => Go.Proofs.Try.call61 args w
theorem hf : Go.Proofs.Try.prog.funcs[61]? = some Go.Proofs.Try.f61 := Go.Proofs.Try.func61
theorem hb : Go.Proofs.Try.f61.body = some code := by kernel_rfl
theorem hok : codeOk Go.Proofs.Try.f61.ntmps code = true := by kernel_rfl
theorem run_eq (a0 a1 : AV) : pureOf Go.Proofs.Try.prog CC (draws Go.Proofs.Try.prog CC) K Go.Proofs.Try.f61 code [a0, a1] = ref01_Rot a0 a1 := by
  unfold pureOf arun
  rw [if_pos (show [a0, a1].length ≤ Go.Proofs.Try.f61.ntmps from (by decide +kernel : 2 ≤ Go.Proofs.Try.f61.ntmps))]
  unfold afin
  rw [show acode Go.Proofs.Try.prog CC (draws Go.Proofs.Try.prog CC) K code (args0 [a0, a1]) AHeap.empty = body ref01_Bits.spec ref01_Word.spec (args0 [a0, a1]) AHeap.empty from body_eq ref01_Bits.spec ref01_Word.spec _ _]
  kernel_rfl
theorem sound : Sound Go.Proofs.Try.prog 61 (.pure false spec) := by
  refine (sound_pure CS Mixed (draws _ _) K hf hb hok callable).less fun args r h => ?_
  unfold spec at h
  split at h
  · rw [run_eq]; exact h
  · cases h
end ref01_Rot
end Go.Abs
end
