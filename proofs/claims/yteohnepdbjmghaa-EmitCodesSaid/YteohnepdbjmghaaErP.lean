/-
  That the program's functions are these. Printed by gen.py.
-/
import Derived.Test.YteohnepdbjmghaaErF
import Derived.Test.YteohnepdbjmghaaIrP
import Derived.Test.YteohnepdbjmghaaTeP
set_option linter.unusedSimpArgs false
set_option linter.unusedVariables false
namespace Go.Abs
namespace ref25_Fits
noncomputable def code : Code := match Go.Proofs.Try.f23.body with | some c => c | none => .skip
end ref25_Fits
namespace ref25_Same
noncomputable def code : Code := match Go.Proofs.Try.f25.body with | some c => c | none => .skip
def K : Nat → List Nat
  | 0 => [0, 1]
  | 1 => [0, 1, 12]
  | 2 => [4]
  | 3 => [0, 1, 5]
  | 4 => [0, 1, 5, 16]
  | 6 => [0, 1, 5, 6, 7]
  | 7 => [0, 1, 5, 36]
  | 8 => [4]
  | 5 => [0, 1, 5]
  | 9 => [4]
  | _ => []
noncomputable def CC : Tab := C ref04_Show.spec
theorem CS : CC.Sound Go.Proofs.Try.prog := (Tab.Sound.none.add ref04_Show.sound)
theorem body_eq (s0 : SpecP) (fr : AFr) (H : AHeap) : acode Go.Proofs.Try.prog (C s0) (draws Go.Proofs.Try.prog (C s0)) K code fr H = body s0 fr H := by kernel_rfl
theorem callable : Callable Go.Proofs.Try.prog 25 := fun args w => Go.Proofs.Try.call25 args w
theorem hf : Go.Proofs.Try.prog.funcs[25]? = some Go.Proofs.Try.f25 := Go.Proofs.Try.func25
theorem hb : Go.Proofs.Try.f25.body = some code := by kernel_rfl
theorem hok : codeOk Go.Proofs.Try.f25.ntmps code = true := by kernel_rfl
theorem run_eq (a0 a1 : AV) : pureOf Go.Proofs.Try.prog CC (draws Go.Proofs.Try.prog CC) K Go.Proofs.Try.f25 code [a0, a1] = ref25_Same a0 a1 := by
  unfold pureOf arun
  rw [if_pos (show [a0, a1].length ≤ Go.Proofs.Try.f25.ntmps from (by decide +kernel : 2 ≤ Go.Proofs.Try.f25.ntmps))]
  unfold afin
  rw [show acode Go.Proofs.Try.prog CC (draws Go.Proofs.Try.prog CC) K code (args0 [a0, a1]) AHeap.empty = body ref04_Show.spec (args0 [a0, a1]) AHeap.empty from body_eq ref04_Show.spec _ _]
  kernel_rfl
theorem sound : Sound Go.Proofs.Try.prog 25 (.pure false spec) := by
  refine (sound_pure CS Mixed (draws _ _) K hf hb hok callable).less fun args r h => ?_
  unfold spec at h
  split at h
  · rw [run_eq]; exact h
  · cases h
end ref25_Same
namespace ref25_Slot
noncomputable def code : Code := match Go.Proofs.Try.f28.body with | some c => c | none => .skip
def K : Nat → List Nat
  | 0 => [0]
  | 1 => [0, 3]
  | 2 => [3, 11]
  | 3 => [2]
  | 4 => [3, 14]
  | 5 => [2]
  | 6 => [2]
  | _ => []
noncomputable def CC : Tab := C ref04_Num.spec
theorem CS : CC.Sound Go.Proofs.Try.prog := (Tab.Sound.none.add ref04_Num.sound)
theorem body_eq (s0 : SpecP) (fr : AFr) (H : AHeap) : acode Go.Proofs.Try.prog (C s0) (draws Go.Proofs.Try.prog (C s0)) K code fr H = body s0 fr H := by kernel_rfl
theorem callable : Callable Go.Proofs.Try.prog 28 := fun args w => Go.Proofs.Try.call28 args w
theorem hf : Go.Proofs.Try.prog.funcs[28]? = some Go.Proofs.Try.f28 := Go.Proofs.Try.func28
theorem hb : Go.Proofs.Try.f28.body = some code := by kernel_rfl
theorem hok : codeOk Go.Proofs.Try.f28.ntmps code = true := by kernel_rfl
theorem run_eq (a0 : AV) : pureOf Go.Proofs.Try.prog CC (draws Go.Proofs.Try.prog CC) K Go.Proofs.Try.f28 code [a0] = ref25_Slot a0 := by
  unfold pureOf arun
  rw [if_pos (show [a0].length ≤ Go.Proofs.Try.f28.ntmps from (by decide +kernel : 1 ≤ Go.Proofs.Try.f28.ntmps))]
  unfold afin
  rw [show acode Go.Proofs.Try.prog CC (draws Go.Proofs.Try.prog CC) K code (args0 [a0]) AHeap.empty = body ref04_Num.spec (args0 [a0]) AHeap.empty from body_eq ref04_Num.spec _ _]
  kernel_rfl
theorem sound : Sound Go.Proofs.Try.prog 28 (.pure false spec) := by
  refine (sound_pure CS Mixed (draws _ _) K hf hb hok callable).less fun args r h => ?_
  unfold spec at h
  split at h
  · rw [run_eq]; exact h
  · cases h
end ref25_Slot
namespace ref25_Step
noncomputable def code : Code := match Go.Proofs.Try.f26.body with | some c => c | none => .skip
def K : Nat → List Nat
  | 0 => [1, 2, 3]
  | 1 => [1, 2, 3, 7]
  | 2 => [1, 2, 3, 7, 21]
  | 3 => [1, 2, 3, 7]
  | 4 => [1, 2, 3, 7, 8]
  | 5 => [1, 2, 3, 7, 8, 28]
  | 7 => [1, 2, 3, 7, 8]
  | 6 => [1, 2, 3, 7, 8]
  | 8 => [1, 3, 7, 9]
  | 9 => [1, 3, 7, 9, 49]
  | 10 => [1, 3, 7, 9, 49, 50]
  | 11 => [1, 7]
  | 12 => [1, 3, 7, 9, 49, 55]
  | 13 => [1, 7]
  | 14 => [1, 3, 7, 9, 49, 60]
  | 15 => [1, 7]
  | 16 => [1, 3, 7, 9, 49, 65]
  | 17 => [1, 7]
  | 18 => [1, 3, 7, 9, 49, 70]
  | 19 => [1, 7]
  | 20 => [1, 3, 7, 9, 49, 77]
  | 21 => [1, 7, 9, 81]
  | 22 => [1, 7]
  | 23 => [1, 7]
  | 24 => [1, 3, 7, 49, 90]
  | 25 => [1, 7]
  | 26 => [1, 3, 7, 102]
  | 27 => [1, 7, 10, 11]
  | 28 => [1, 7, 10, 11, 114]
  | 29 => [1, 7, 10, 11]
  | 30 => [1, 7, 10]
  | 31 => [1, 7, 10, 12]
  | 32 => [1, 7, 10, 12, 137]
  | 34 => [1, 7, 10, 12]
  | 33 => [1, 7, 10, 12]
  | 35 => [6]
  | _ => []
noncomputable def CC : Tab := C ref25_Slot.spec ref04_Num.spec
theorem CS : CC.Sound Go.Proofs.Try.prog := ((Tab.Sound.none.add ref25_Slot.sound).add ref04_Num.sound)
theorem body_eq (s0 s1 : SpecP) (fr : AFr) (H : AHeap) : acode Go.Proofs.Try.prog (C s0 s1) (draws Go.Proofs.Try.prog (C s0 s1)) K code fr H = body s0 s1 fr H := by kernel_rfl
theorem callable : Callable Go.Proofs.Try.prog 26 := fun args w => Go.Proofs.Try.call26 args w
theorem hf : Go.Proofs.Try.prog.funcs[26]? = some Go.Proofs.Try.f26 := Go.Proofs.Try.func26
theorem hb : Go.Proofs.Try.f26.body = some code := by kernel_rfl
theorem hok : codeOk Go.Proofs.Try.f26.ntmps code = true := by kernel_rfl
theorem run_eq (a0 a1 a2 : AV) : pureOf Go.Proofs.Try.prog CC (draws Go.Proofs.Try.prog CC) K Go.Proofs.Try.f26 code [a0, a1, a2] = ref25_Step a0 a1 a2 := by
  unfold pureOf arun
  rw [if_pos (show [a0, a1, a2].length ≤ Go.Proofs.Try.f26.ntmps from (by decide +kernel : 3 ≤ Go.Proofs.Try.f26.ntmps))]
  unfold afin
  rw [show acode Go.Proofs.Try.prog CC (draws Go.Proofs.Try.prog CC) K code (args0 [a0, a1, a2]) AHeap.empty = body ref25_Slot.spec ref04_Num.spec (args0 [a0, a1, a2]) AHeap.empty from body_eq ref25_Slot.spec ref04_Num.spec _ _]
  kernel_rfl
theorem sound : Sound Go.Proofs.Try.prog 26 (.pure false spec) := by
  refine (sound_pure CS Mixed (draws _ _) K hf hb hok callable).less fun args r h => ?_
  unfold spec at h
  split at h
  · rw [run_eq]; exact h
  · cases h
end ref25_Step
namespace ref25_Begin
def K : Nat → List Nat
  | 0 => []
  | 1 => [0]
  | _ => []
end ref25_Begin
namespace ref25_Begin_ref
noncomputable def code : Code := match Go.Proofs.Try.f30.body with | some c => c | none => .skip
def K : Nat → List Nat
  | 0 => []
  | 1 => [0]
  | _ => []
noncomputable def CC : Tab := C
theorem CS : CC.Sound Go.Proofs.Try.prog := Tab.Sound.none
theorem body_eq (fr : AFr) (H : AHeap) : acode Go.Proofs.Try.prog C (draws Go.Proofs.Try.prog C) K code fr H = body fr H := by kernel_rfl
theorem callable : Callable Go.Proofs.Try.prog 30 := fun args w => Go.Proofs.Try.call30 args w
theorem hf : Go.Proofs.Try.prog.funcs[30]? = some Go.Proofs.Try.f30 := Go.Proofs.Try.func30
theorem hb : Go.Proofs.Try.f30.body = some code := by kernel_rfl
theorem hok : codeOk Go.Proofs.Try.f30.ntmps code = true := by kernel_rfl
theorem run_eq (H : AHeap) : refOf Go.Proofs.Try.prog CC (draws Go.Proofs.Try.prog CC) K Go.Proofs.Try.f30 code [] H = ref25_Begin_ref H := by
  unfold refOf arun
  rw [if_pos (show [].length ≤ Go.Proofs.Try.f30.ntmps from (by decide +kernel : 0 ≤ Go.Proofs.Try.f30.ntmps))]
  unfold afin
  rw [show acode Go.Proofs.Try.prog CC (draws Go.Proofs.Try.prog CC) K code (args0 []) H = body (args0 []) H from body_eq _ _]
  kernel_rfl
theorem sound : Sound Go.Proofs.Try.prog 30 (.ref [] spec) := by
  refine (sound_ref CS Mixed (draws _ _) K hf hb hok callable []).lessR fun args H r h => ?_
  unfold spec at h
  split at h
  · rw [run_eq]; exact h
  · cases h
end ref25_Begin_ref
namespace ref25_Lines
noncomputable def code : Code := match Go.Proofs.Try.f34.body with | some c => c | none => .skip
def K : Nat → List Nat
  | 0 => [1, 2]
  | 1 => [1, 2, 24]
  | 2 => [4, 5]
  | 3 => [1, 2, 6]
  | 4 => [1, 2, 6, 29]
  | 6 => [1, 2, 6, 43]
  | 7 => [4, 5]
  | 5 => [1, 2, 6]
  | 8 => [1, 2, 7]
  | 9 => [1, 2, 7, 8]
  | 10 => [1, 2, 7, 8, 50]
  | 12 => [1, 2, 7, 8, 9, 10]
  | 13 => [1, 2, 7, 8, 9, 10, 62]
  | 14 => [1, 2, 7, 8, 9, 10]
  | 15 => [1, 2, 7, 8, 9, 10, 74]
  | 16 => [1, 2, 7, 8, 9, 10]
  | 17 => [1, 2, 7, 8]
  | 18 => [1, 2, 7, 8, 97]
  | 19 => [4, 5]
  | 11 => [1, 2, 7, 8]
  | 20 => [4, 5]
  | _ => []
noncomputable def CC : Tab := C ref19_Can.spec ref25_Begin_ref.spec ref19_Takes.spec ref25_Step.spec
theorem CS : CC.Sound Go.Proofs.Try.prog := ((((Tab.Sound.none.add ref19_Can.sound).add ref25_Begin_ref.sound).add ref19_Takes.sound).add ref25_Step.sound)
theorem body_eq (s0 : SpecP) (s1 : SpecM) (s2 s3 : SpecP) (fr : AFr) (H : AHeap) : acode Go.Proofs.Try.prog (C s0 s1 s2 s3) (draws Go.Proofs.Try.prog (C s0 s1 s2 s3)) K code fr H = body s0 s1 s2 s3 fr H := by kernel_rfl
theorem callable : Callable Go.Proofs.Try.prog 34 := fun args w => Go.Proofs.Try.call34 args w
theorem hf : Go.Proofs.Try.prog.funcs[34]? = some Go.Proofs.Try.f34 := Go.Proofs.Try.func34
theorem hb : Go.Proofs.Try.f34.body = some code := by kernel_rfl
theorem hok : codeOk Go.Proofs.Try.f34.ntmps code = true := by kernel_rfl
theorem run_eq (a0 a1 : AV) : pureOf Go.Proofs.Try.prog CC (draws Go.Proofs.Try.prog CC) K Go.Proofs.Try.f34 code [a0, a1] = ref25_Lines a0 a1 := by
  unfold pureOf arun
  rw [if_pos (show [a0, a1].length ≤ Go.Proofs.Try.f34.ntmps from (by decide +kernel : 2 ≤ Go.Proofs.Try.f34.ntmps))]
  unfold afin
  rw [show acode Go.Proofs.Try.prog CC (draws Go.Proofs.Try.prog CC) K code (args0 [a0, a1]) AHeap.empty = body ref19_Can.spec ref25_Begin_ref.spec ref19_Takes.spec ref25_Step.spec (args0 [a0, a1]) AHeap.empty from body_eq ref19_Can.spec ref25_Begin_ref.spec ref19_Takes.spec ref25_Step.spec _ _]
  kernel_rfl
theorem sound : Sound Go.Proofs.Try.prog 34 (.pure false spec) := by
  refine (sound_pure CS Mixed (draws _ _) K hf hb hok callable).less fun args r h => ?_
  unfold spec at h
  split at h
  · rw [run_eq]; exact h
  · cases h
end ref25_Lines
end Go.Abs
