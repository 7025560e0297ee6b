/-
  That the program's functions are these. Printed by gen.py.
-/
import Derived.Test.YthignlpdeaglaaaIrF
import Derived.Test.YthignlpdeaglaaaLoP
set_option linter.unusedSimpArgs false
set_option linter.unusedVariables false
namespace Go.Abs
namespace ref18_Join
noncomputable def code : Code := match Go.Proofs.Try.f43.body with | some c => c | none => .skip
end ref18_Join
namespace ref19_Randoms
noncomputable def code : Code := match Go.Proofs.Try.f22.body with | some c => c | none => .skip
def K : Nat → List Nat
  | 0 => [1]
  | 1 => [1, 3]
  | 2 => [1, 3, 4]
  | 3 => [1, 3, 4, 9]
  | 5 => [1, 3, 4, 18]
  | 6 => [1, 3, 4]
  | 4 => [1, 3, 4]
  | 7 => [2]
  | _ => []
noncomputable def CC : Tab := C
theorem CS : CC.Sound Go.Proofs.Try.prog := Tab.Sound.none
theorem body_eq (fr : AFr) (H : AHeap) : acode Go.Proofs.Try.prog C (draws Go.Proofs.Try.prog C) K code fr H = body fr H := by kernel_rfl
theorem callable : Callable Go.Proofs.Try.prog 22 := fun args w => Go.Proofs.Try.call22 args w
theorem hf : Go.Proofs.Try.prog.funcs[22]? = some Go.Proofs.Try.f22 := Go.Proofs.Try.func22
theorem hb : Go.Proofs.Try.f22.body = some code := by kernel_rfl
theorem hok : codeOk Go.Proofs.Try.f22.ntmps code = true := by kernel_rfl
theorem run_eq (a0 : AV) : pureOf Go.Proofs.Try.prog CC (draws Go.Proofs.Try.prog CC) K Go.Proofs.Try.f22 code [a0] = ref19_Randoms a0 := by
  unfold pureOf arun
  rw [if_pos (show [a0].length ≤ Go.Proofs.Try.f22.ntmps from (by decide +kernel : 1 ≤ Go.Proofs.Try.f22.ntmps))]
  unfold afin
  rw [show acode Go.Proofs.Try.prog CC (draws Go.Proofs.Try.prog CC) K code (args0 [a0]) AHeap.empty = body (args0 [a0]) AHeap.empty from body_eq _ _]
  kernel_rfl
theorem sound : Sound Go.Proofs.Try.prog 22 (.pure false spec) := by
  refine (sound_pure CS Mixed (draws _ _) K hf hb hok callable).less fun args r h => ?_
  unfold spec at h
  split at h
  · rw [run_eq]; exact h
  · cases h
end ref19_Randoms
namespace ref19_Takes
noncomputable def code : Code := match Go.Proofs.Try.f54.body with | some c => c | none => .skip
def K : Nat → List Nat
  | 0 => [0]
  | 1 => [0, 8]
  | 2 => [2]
  | 3 => [18]
  | 4 => [2]
  | 5 => [2]
  | _ => []
noncomputable def CC : Tab := C
theorem CS : CC.Sound Go.Proofs.Try.prog := Tab.Sound.none
theorem body_eq (fr : AFr) (H : AHeap) : acode Go.Proofs.Try.prog C (draws Go.Proofs.Try.prog C) K code fr H = body fr H := by kernel_rfl
theorem callable : Callable Go.Proofs.Try.prog 54 := fun args w => Go.Proofs.Try.call54 args w
theorem hf : Go.Proofs.Try.prog.funcs[54]? = some Go.Proofs.Try.f54 := Go.Proofs.Try.func54
theorem hb : Go.Proofs.Try.f54.body = some code := by kernel_rfl
theorem hok : codeOk Go.Proofs.Try.f54.ntmps code = true := by kernel_rfl
theorem run_eq (a0 : AV) : pureOf Go.Proofs.Try.prog CC (draws Go.Proofs.Try.prog CC) K Go.Proofs.Try.f54 code [a0] = ref19_Takes a0 := by
  unfold pureOf arun
  rw [if_pos (show [a0].length ≤ Go.Proofs.Try.f54.ntmps from (by decide +kernel : 1 ≤ Go.Proofs.Try.f54.ntmps))]
  unfold afin
  rw [show acode Go.Proofs.Try.prog CC (draws Go.Proofs.Try.prog CC) K code (args0 [a0]) AHeap.empty = body (args0 [a0]) AHeap.empty from body_eq _ _]
  kernel_rfl
theorem sound : Sound Go.Proofs.Try.prog 54 (.pure false spec) := by
  refine (sound_pure CS Mixed (draws _ _) K hf hb hok callable).less fun args r h => ?_
  unfold spec at h
  split at h
  · rw [run_eq]; exact h
  · cases h
end ref19_Takes
namespace ref19_Can
noncomputable def code : Code := match Go.Proofs.Try.f27.body with | some c => c | none => .skip
def K : Nat → List Nat
  | 0 => [1]
  | 1 => [1, 21]
  | 2 => [2]
  | 3 => [1, 3]
  | 4 => [1, 3, 26]
  | 6 => [1, 3, 4]
  | 7 => [1, 3, 4, 5, 6]
  | 8 => [1, 3, 4, 96]
  | 9 => [2]
  | 10 => [1, 3, 124]
  | 11 => [2]
  | 5 => [1, 3]
  | 12 => [1, 7]
  | 13 => [1, 7, 129]
  | 15 => [1, 7, 151]
  | 16 => [2]
  | 14 => [1, 7]
  | 17 => [2]
  | _ => []
noncomputable def CC : Tab := C ref19_Takes.spec
theorem CS : CC.Sound Go.Proofs.Try.prog := (Tab.Sound.none.add ref19_Takes.sound)
theorem body_eq (s0 : SpecP) (fr : AFr) (H : AHeap) : acode Go.Proofs.Try.prog (C s0) (draws Go.Proofs.Try.prog (C s0)) K code fr H = body s0 fr H := by kernel_rfl
theorem callable : Callable Go.Proofs.Try.prog 27 := fun args w => Go.Proofs.Try.call27 args w
theorem hf : Go.Proofs.Try.prog.funcs[27]? = some Go.Proofs.Try.f27 := Go.Proofs.Try.func27
theorem hb : Go.Proofs.Try.f27.body = some code := by kernel_rfl
theorem hok : codeOk Go.Proofs.Try.f27.ntmps code = true := by kernel_rfl
theorem run_eq (a0 : AV) : pureOf Go.Proofs.Try.prog CC (draws Go.Proofs.Try.prog CC) K Go.Proofs.Try.f27 code [a0] = ref19_Can a0 := by
  unfold pureOf arun
  rw [if_pos (show [a0].length ≤ Go.Proofs.Try.f27.ntmps from (by decide +kernel : 1 ≤ Go.Proofs.Try.f27.ntmps))]
  unfold afin
  rw [show acode Go.Proofs.Try.prog CC (draws Go.Proofs.Try.prog CC) K code (args0 [a0]) AHeap.empty = body ref19_Takes.spec (args0 [a0]) AHeap.empty from body_eq ref19_Takes.spec _ _]
  kernel_rfl
theorem sound : Sound Go.Proofs.Try.prog 27 (.pure false spec) := by
  refine (sound_pure CS Mixed (draws _ _) K hf hb hok callable).less fun args r h => ?_
  unfold spec at h
  split at h
  · rw [run_eq]; exact h
  · cases h
end ref19_Can
namespace ref19_Exec
noncomputable def code : Code := match Go.Proofs.Try.f39.body with | some c => c | none => .skip
def K : Nat → List Nat
  | 0 => [1, 2, 3]
  | 1 => [1, 2, 3, 8, 9]
  | 2 => [1, 2, 3, 8, 9, 26]
  | 3 => [6, 7]
  | 4 => [1, 2, 3, 8, 9, 10]
  | 5 => [1, 2, 3, 8, 9, 10, 31]
  | 7 => [1, 2, 3, 8, 9, 10, 37]
  | 8 => [1, 2, 3, 8, 9, 10]
  | 9 => [1, 2, 3, 8, 9, 10]
  | 6 => [1, 2, 3, 8, 9, 10]
  | 10 => [2, 3, 8, 9, 11]
  | 11 => [2, 3, 8, 9, 11, 52]
  | 13 => [2, 3, 8, 9, 11, 12]
  | 14 => [2, 3, 8, 9, 11, 12, 14, 15]
  | 15 => [2, 3, 8, 9, 11, 12, 14, 15, 63]
  | 16 => [2, 3, 8, 9, 11, 12, 14, 15]
  | 17 => [2, 3, 8, 9, 11, 12, 14, 15, 72]
  | 18 => [2, 3, 8, 9, 11, 12, 14, 15]
  | 19 => [2, 3, 8, 9, 11, 12, 14, 15, 79]
  | 21 => [2, 3, 8, 9, 11, 12, 14, 15, 79, 81]
  | 22 => [2, 3, 8, 9, 11, 13]
  | 23 => [2, 3, 8, 9, 11, 12, 14, 15, 79, 89]
  | 24 => [2, 3, 8, 9, 11, 13]
  | 25 => [2, 3, 8, 9, 11, 12, 14, 15, 79, 94]
  | 26 => [2, 3, 8, 9, 11, 13]
  | 27 => [2, 3, 8, 9, 11, 12, 14, 79, 99]
  | 28 => [2, 3, 8, 9, 11, 13]
  | 29 => [2, 3, 8, 9, 11, 12, 14, 79, 103]
  | 30 => [2, 3, 8, 9, 11, 13]
  | 31 => [2, 3, 8, 9, 11, 12, 14, 79, 112]
  | 32 => [2, 3, 8, 9, 11, 13]
  | 33 => [2, 3, 8, 9, 11, 12, 14, 79, 121]
  | 34 => [2, 3, 8, 9, 11, 13]
  | 35 => [2, 3, 8, 9, 11, 12, 14, 127]
  | 36 => [2, 3, 8, 9, 11, 13]
  | 20 => [2, 3, 8, 9, 11, 13]
  | 37 => [2, 3, 8, 9, 11]
  | 12 => [2, 3, 8, 9, 11]
  | 38 => [6, 7]
  | _ => []
noncomputable def CC : Tab := C ref19_Can.spec ref19_Randoms.spec ref19_Takes.spec ref01_Shift.spec ref01_Rot.spec
theorem CS : CC.Sound Go.Proofs.Try.prog := (((((Tab.Sound.none.add ref19_Can.sound).add ref19_Randoms.sound).add ref19_Takes.sound).add ref01_Shift.sound).add ref01_Rot.sound)
theorem body_eq (s0 s1 s2 s3 s4 : SpecP) (fr : AFr) (H : AHeap) : acode Go.Proofs.Try.prog (C s0 s1 s2 s3 s4) (draws Go.Proofs.Try.prog (C s0 s1 s2 s3 s4)) K code fr H = body s0 s1 s2 s3 s4 fr H := by kernel_rfl
theorem callable : Callable Go.Proofs.Try.prog 39 := fun args w => Go.Proofs.Try.call39 args w
theorem hf : Go.Proofs.Try.prog.funcs[39]? = some Go.Proofs.Try.f39 := Go.Proofs.Try.func39
theorem hb : Go.Proofs.Try.f39.body = some code := by kernel_rfl
theorem hok : codeOk Go.Proofs.Try.f39.ntmps code = true := by kernel_rfl
theorem run_eq (a0 a1 a2 : AV) : pureOf Go.Proofs.Try.prog CC (draws Go.Proofs.Try.prog CC) K Go.Proofs.Try.f39 code [a0, a1, a2] = ref19_Exec a0 a1 a2 := by
  unfold pureOf arun
  rw [if_pos (show [a0, a1, a2].length ≤ Go.Proofs.Try.f39.ntmps from (by decide +kernel : 3 ≤ Go.Proofs.Try.f39.ntmps))]
  unfold afin
  rw [show acode Go.Proofs.Try.prog CC (draws Go.Proofs.Try.prog CC) K code (args0 [a0, a1, a2]) AHeap.empty = body ref19_Can.spec ref19_Randoms.spec ref19_Takes.spec ref01_Shift.spec ref01_Rot.spec (args0 [a0, a1, a2]) AHeap.empty from body_eq ref19_Can.spec ref19_Randoms.spec ref19_Takes.spec ref01_Shift.spec ref01_Rot.spec _ _]
  kernel_rfl
theorem sound : Sound Go.Proofs.Try.prog 39 (.pure false spec) := by
  refine (sound_pure CS Mixed (draws _ _) K hf hb hok callable).less fun args r h => ?_
  unfold spec at h
  split at h
  · rw [run_eq]; exact h
  · cases h
end ref19_Exec
namespace ref19_Bits
noncomputable def code : Code := match Go.Proofs.Try.f47.body with | some c => c | none => .skip
def K : Nat → List Nat
  | 0 => [0, 1]
  | 1 => [0, 1, 5]
  | 2 => [0, 1, 5, 6]
  | 3 => [0, 1, 5, 6, 10]
  | 5 => [0, 1, 5, 6]
  | 6 => [0, 1, 5, 6]
  | 4 => [0, 1, 5, 6]
  | 7 => [4]
  | _ => []
noncomputable def CC : Tab := C
theorem CS : CC.Sound Go.Proofs.Try.prog := Tab.Sound.none
theorem body_eq (fr : AFr) (H : AHeap) : acode Go.Proofs.Try.prog C (draws Go.Proofs.Try.prog C) K code fr H = body fr H := by kernel_rfl
theorem callable : Callable Go.Proofs.Try.prog 47 := fun args w => Go.Proofs.Try.call47 args w
theorem hf : Go.Proofs.Try.prog.funcs[47]? = some Go.Proofs.Try.f47 := Go.Proofs.Try.func47
theorem hb : Go.Proofs.Try.f47.body = some code := by kernel_rfl
theorem hok : codeOk Go.Proofs.Try.f47.ntmps code = true := by kernel_rfl
theorem run_eq (a0 a1 : AV) : pureOf Go.Proofs.Try.prog CC (draws Go.Proofs.Try.prog CC) K Go.Proofs.Try.f47 code [a0, a1] = ref19_Bits a0 a1 := by
  unfold pureOf arun
  rw [if_pos (show [a0, a1].length ≤ Go.Proofs.Try.f47.ntmps from (by decide +kernel : 2 ≤ Go.Proofs.Try.f47.ntmps))]
  unfold afin
  rw [show acode Go.Proofs.Try.prog CC (draws Go.Proofs.Try.prog CC) K code (args0 [a0, a1]) AHeap.empty = body (args0 [a0, a1]) AHeap.empty from body_eq _ _]
  kernel_rfl
theorem sound : Sound Go.Proofs.Try.prog 47 (.pure false spec) := by
  refine (sound_pure CS Mixed (draws _ _) K hf hb hok callable).less fun args r h => ?_
  unfold spec at h
  split at h
  · rw [run_eq]; exact h
  · cases h
end ref19_Bits
namespace ref19_Spread
noncomputable def code : Code := match Go.Proofs.Try.f49.body with | some c => c | none => .skip
def K : Nat → List Nat
  | 0 => [1, 2, 3]
  | 1 => [1, 2, 3, 7, 8]
  | 2 => [1, 2, 3, 7, 8, 9]
  | 3 => [1, 2, 3, 7, 8, 9, 21]
  | 5 => [1, 2, 3, 7, 8, 9]
  | 4 => [1, 2, 3, 7, 8, 9]
  | 6 => [1, 2, 3, 7, 8, 10]
  | 7 => [1, 2, 3, 7, 8, 10, 30]
  | 9 => [1, 2, 3, 7, 8, 10]
  | 8 => [1, 2, 3, 7, 8, 10]
  | 10 => [1, 2, 3, 7, 8, 11]
  | 11 => [1, 2, 3, 7, 8, 11, 39]
  | 13 => [1, 2, 3, 7, 8, 11]
  | 12 => [1, 2, 3, 7, 8, 11]
  | 14 => [1, 2, 3, 7, 8, 12]
  | 15 => [1, 2, 3, 7, 8, 12, 46]
  | 17 => [1, 2, 3, 7, 8, 12, 13]
  | 18 => [1, 2, 3, 7, 8, 12, 13, 15]
  | 19 => [1, 2, 3, 7, 8, 12, 13, 15, 16]
  | 20 => [1, 2, 3, 7, 8, 12, 13, 15, 16, 62]
  | 22 => [1, 2, 3, 7, 8, 12, 13, 15, 16]
  | 21 => [1, 2, 3, 7, 8, 12, 13, 15, 16]
  | 23 => [1, 2, 3, 7, 8, 12]
  | 16 => [1, 2, 3, 7, 8, 12]
  | 24 => [6]
  | _ => []
noncomputable def CC : Tab := C ref19_Randoms.spec ref19_Bits.spec ref19_Exec.spec
theorem CS : CC.Sound Go.Proofs.Try.prog := (((Tab.Sound.none.add ref19_Randoms.sound).add ref19_Bits.sound).add ref19_Exec.sound)
theorem body_eq (s0 s1 s2 : SpecP) (fr : AFr) (H : AHeap) : acode Go.Proofs.Try.prog (C s0 s1 s2) (draws Go.Proofs.Try.prog (C s0 s1 s2)) K code fr H = body s0 s1 s2 fr H := by kernel_rfl
theorem callable : Callable Go.Proofs.Try.prog 49 := fun args w => Go.Proofs.Try.call49 args w
theorem hf : Go.Proofs.Try.prog.funcs[49]? = some Go.Proofs.Try.f49 := Go.Proofs.Try.func49
theorem hb : Go.Proofs.Try.f49.body = some code := by kernel_rfl
theorem hok : codeOk Go.Proofs.Try.f49.ntmps code = true := by kernel_rfl
theorem run_eq (a0 a1 a2 : AV) : pureOf Go.Proofs.Try.prog CC (draws Go.Proofs.Try.prog CC) K Go.Proofs.Try.f49 code [a0, a1, a2] = ref19_Spread a0 a1 a2 := by
  unfold pureOf arun
  rw [if_pos (show [a0, a1, a2].length ≤ Go.Proofs.Try.f49.ntmps from (by decide +kernel : 3 ≤ Go.Proofs.Try.f49.ntmps))]
  unfold afin
  rw [show acode Go.Proofs.Try.prog CC (draws Go.Proofs.Try.prog CC) K code (args0 [a0, a1, a2]) AHeap.empty = body ref19_Randoms.spec ref19_Bits.spec ref19_Exec.spec (args0 [a0, a1, a2]) AHeap.empty from body_eq ref19_Randoms.spec ref19_Bits.spec ref19_Exec.spec _ _]
  kernel_rfl
theorem sound : Sound Go.Proofs.Try.prog 49 (.pure false spec) := by
  refine (sound_pure CS Mixed (draws _ _) K hf hb hok callable).less fun args r h => ?_
  unfold spec at h
  split at h
  · rw [run_eq]; exact h
  · cases h
end ref19_Spread
namespace ref19_Matter
noncomputable def code : Code := match Go.Proofs.Try.f55.body with | some c => c | none => .skip
def K : Nat → List Nat
  | 0 => [1, 2]
  | 1 => [1, 2, 5, 6, 7]
  | 2 => [1, 2, 5, 6, 7, 8]
  | 3 => [1, 2, 5, 6, 7, 8, 21]
  | 5 => [1, 2, 5, 6, 7, 8]
  | 4 => [1, 2, 5, 6, 7, 8]
  | 6 => [1, 2, 5, 6, 7, 9]
  | 7 => [1, 2, 5, 6, 7, 9, 28]
  | 9 => [1, 2, 5, 6, 7, 9, 10]
  | 10 => [1, 2, 5, 6, 7, 9]
  | 8 => [1, 2, 5, 6, 7, 9]
  | 11 => [2, 5, 6, 7, 11]
  | 12 => [2, 5, 6, 7, 11, 44]
  | 14 => [2, 5, 6, 7, 11, 12]
  | 15 => [2, 5, 6, 7, 11, 12, 13]
  | 16 => [2, 5, 6, 7, 11, 12, 13, 50]
  | 18 => [2, 5, 6, 7, 11, 12, 13, 71]
  | 19 => [2, 5, 6, 7, 11, 12, 13]
  | 20 => [2, 5, 6, 7, 11, 12, 13]
  | 17 => [2, 5, 6, 7, 11, 12, 13]
  | 13 => [2, 5, 6, 7, 11]
  | 21 => [4]
  | _ => []
noncomputable def CC : Tab := C ref19_Bits.spec ref19_Spread.spec ref02_Same.spec
theorem CS : CC.Sound Go.Proofs.Try.prog := (((Tab.Sound.none.add ref19_Bits.sound).add ref19_Spread.sound).add ref02_Same.sound)
theorem body_eq (s0 s1 s2 : SpecP) (fr : AFr) (H : AHeap) : acode Go.Proofs.Try.prog (C s0 s1 s2) (draws Go.Proofs.Try.prog (C s0 s1 s2)) K code fr H = body s0 s1 s2 fr H := by kernel_rfl
theorem callable : Callable Go.Proofs.Try.prog 55 := fun args w => Go.Proofs.Try.call55 args w
theorem hf : Go.Proofs.Try.prog.funcs[55]? = some Go.Proofs.Try.f55 := Go.Proofs.Try.func55
theorem hb : Go.Proofs.Try.f55.body = some code := by kernel_rfl
theorem hok : codeOk Go.Proofs.Try.f55.ntmps code = true := by kernel_rfl
theorem run_eq (a0 a1 : AV) : pureOf Go.Proofs.Try.prog CC (draws Go.Proofs.Try.prog CC) K Go.Proofs.Try.f55 code [a0, a1] = ref19_Matter a0 a1 := by
  unfold pureOf arun
  rw [if_pos (show [a0, a1].length ≤ Go.Proofs.Try.f55.ntmps from (by decide +kernel : 2 ≤ Go.Proofs.Try.f55.ntmps))]
  unfold afin
  rw [show acode Go.Proofs.Try.prog CC (draws Go.Proofs.Try.prog CC) K code (args0 [a0, a1]) AHeap.empty = body ref19_Bits.spec ref19_Spread.spec ref02_Same.spec (args0 [a0, a1]) AHeap.empty from body_eq ref19_Bits.spec ref19_Spread.spec ref02_Same.spec _ _]
  kernel_rfl
theorem sound : Sound Go.Proofs.Try.prog 55 (.pure false spec) := by
  refine (sound_pure CS Mixed (draws _ _) K hf hb hok callable).less fun args r h => ?_
  unfold spec at h
  split at h
  · rw [run_eq]; exact h
  · cases h
end ref19_Matter
end Go.Abs
