/-
  That the program's functions are these. Printed by gen.py.
-/
import Derived.Test.YtncablokgkejjaaCrF
import Derived.Test.YtncablokgkejjaaLoP
set_option linter.unusedSimpArgs false
set_option linter.unusedVariables false
namespace Go.Abs
namespace ref06_Flags
noncomputable def code : Code := match Go.Proofs.Try.f86.body with | some c => c | none => .skip
def K : Nat → List Nat
  | 0 => [1, 2, 4]
  | 1 => [2, 4]
  | 2 => [4]
  | _ => []
noncomputable def CC : Tab := C
theorem CS : CC.Sound Go.Proofs.Try.prog := Tab.Sound.none
theorem body_eq (fr : AFr) (H : AHeap) : acode Go.Proofs.Try.prog C (draws Go.Proofs.Try.prog C) K code fr H = body fr H := by kernel_rfl
theorem callable : Callable Go.Proofs.Try.prog 86 := fun args w => Go.Proofs.Try.call86 args w
theorem hf : Go.Proofs.Try.prog.funcs[86]? = some Go.Proofs.Try.f86 := Go.Proofs.Try.func86
theorem hb : Go.Proofs.Try.f86.body = some code := by kernel_rfl
theorem hok : codeOk Go.Proofs.Try.f86.ntmps code = true := by kernel_rfl
theorem run_eq (a0 a1 : AV) : pureOf Go.Proofs.Try.prog CC (draws Go.Proofs.Try.prog CC) K Go.Proofs.Try.f86 code [a0, a1] = ref06_Flags a0 a1 := by
  unfold pureOf arun
  rw [if_pos (show [a0, a1].length ≤ Go.Proofs.Try.f86.ntmps from (by decide +kernel : 2 ≤ Go.Proofs.Try.f86.ntmps))]
  unfold afin
  rw [show acode Go.Proofs.Try.prog CC (draws Go.Proofs.Try.prog CC) K code (args0 [a0, a1]) AHeap.empty = body (args0 [a0, a1]) AHeap.empty from body_eq _ _]
  kernel_rfl
theorem sound : Sound Go.Proofs.Try.prog 86 (.pure false spec) := by
  refine (sound_pure CS Mixed (draws _ _) K hf hb hok callable).less fun args r h => ?_
  unfold spec at h
  split at h
  · rw [run_eq]; exact h
  · cases h
end ref06_Flags
namespace ref06_put
noncomputable def code : Code := match Go.Proofs.Try.f58.body with | some c => c | none => .skip
def K : Nat → List Nat
  | 0 => [1, 2, 3, 6]
  | 1 => [1, 2, 3, 6]
  | 2 => [1, 2, 3, 6, 11]
  | 3 => [3, 6]
  | 4 => [6]
  | _ => []
noncomputable def CC : Tab := C ref06_Flags.spec
theorem CS : CC.Sound Go.Proofs.Try.prog := (Tab.Sound.none.add ref06_Flags.sound)
theorem body_eq (s0 : SpecP) (fr : AFr) (H : AHeap) : acode Go.Proofs.Try.prog (C s0) (draws Go.Proofs.Try.prog (C s0)) K code fr H = body s0 fr H := by kernel_rfl
theorem callable : Callable Go.Proofs.Try.prog 58 := fun args w => Go.Proofs.Try.call58 args w
theorem hf : Go.Proofs.Try.prog.funcs[58]? = some Go.Proofs.Try.f58 := Go.Proofs.Try.func58
theorem hb : Go.Proofs.Try.f58.body = some code := by kernel_rfl
theorem hok : codeOk Go.Proofs.Try.f58.ntmps code = true := by kernel_rfl
theorem run_eq (a0 a1 a2 : AV) : pureOf Go.Proofs.Try.prog CC (draws Go.Proofs.Try.prog CC) K Go.Proofs.Try.f58 code [a0, a1, a2] = ref06_put a0 a1 a2 := by
  unfold pureOf arun
  rw [if_pos (show [a0, a1, a2].length ≤ Go.Proofs.Try.f58.ntmps from (by decide +kernel : 3 ≤ Go.Proofs.Try.f58.ntmps))]
  unfold afin
  rw [show acode Go.Proofs.Try.prog CC (draws Go.Proofs.Try.prog CC) K code (args0 [a0, a1, a2]) AHeap.empty = body ref06_Flags.spec (args0 [a0, a1, a2]) AHeap.empty from body_eq ref06_Flags.spec _ _]
  kernel_rfl
theorem sound : Sound Go.Proofs.Try.prog 58 (.pure false spec) := by
  refine (sound_pure CS Mixed (draws _ _) K hf hb hok callable).less fun args r h => ?_
  unfold spec at h
  split at h
  · rw [run_eq]; exact h
  · cases h
end ref06_put
namespace ref06_not
noncomputable def code : Code := match Go.Proofs.Try.f60.body with | some c => c | none => .skip
def K : Nat → List Nat
  | 0 => [0]
  | 1 => [2]
  | _ => []
noncomputable def CC : Tab := C
theorem CS : CC.Sound Go.Proofs.Try.prog := Tab.Sound.none
theorem body_eq (fr : AFr) (H : AHeap) : acode Go.Proofs.Try.prog C (draws Go.Proofs.Try.prog C) K code fr H = body fr H := by kernel_rfl
theorem callable : Callable Go.Proofs.Try.prog 60 := fun args w => Go.Proofs.Try.call60 args w
theorem hf : Go.Proofs.Try.prog.funcs[60]? = some Go.Proofs.Try.f60 := Go.Proofs.Try.func60
theorem hb : Go.Proofs.Try.f60.body = some code := by kernel_rfl
theorem hok : codeOk Go.Proofs.Try.f60.ntmps code = true := by kernel_rfl
theorem run_eq (a0 : AV) : pureOf Go.Proofs.Try.prog CC (draws Go.Proofs.Try.prog CC) K Go.Proofs.Try.f60 code [a0] = ref06_not a0 := by
  unfold pureOf arun
  rw [if_pos (show [a0].length ≤ Go.Proofs.Try.f60.ntmps from (by decide +kernel : 1 ≤ Go.Proofs.Try.f60.ntmps))]
  unfold afin
  rw [show acode Go.Proofs.Try.prog CC (draws Go.Proofs.Try.prog CC) K code (args0 [a0]) AHeap.empty = body (args0 [a0]) AHeap.empty from body_eq _ _]
  kernel_rfl
theorem sound : Sound Go.Proofs.Try.prog 60 (.pure false spec) := by
  refine (sound_pure CS Mixed (draws _ _) K hf hb hok callable).less fun args r h => ?_
  unfold spec at h
  split at h
  · rw [run_eq]; exact h
  · cases h
end ref06_not
namespace ref06_sum
noncomputable def code : Code := match Go.Proofs.Try.f59.body with | some c => c | none => .skip
def K : Nat → List Nat
  | 0 => [1, 2, 3, 4, 5, 10]
  | 1 => [4, 5, 10, 11, 12, 13]
  | 2 => [4, 5, 10, 11]
  | 3 => [10]
  | _ => []
noncomputable def CC : Tab := C ref01_Add.spec ref06_put.spec
theorem CS : CC.Sound Go.Proofs.Try.prog := ((Tab.Sound.none.add ref01_Add.sound).add ref06_put.sound)
theorem body_eq (s0 s1 : SpecP) (fr : AFr) (H : AHeap) : acode Go.Proofs.Try.prog (C s0 s1) (draws Go.Proofs.Try.prog (C s0 s1)) K code fr H = body s0 s1 fr H := by kernel_rfl
theorem callable : Callable Go.Proofs.Try.prog 59 := fun args w => Go.Proofs.Try.call59 args w
theorem hf : Go.Proofs.Try.prog.funcs[59]? = some Go.Proofs.Try.f59 := Go.Proofs.Try.func59
theorem hb : Go.Proofs.Try.f59.body = some code := by kernel_rfl
theorem hok : codeOk Go.Proofs.Try.f59.ntmps code = true := by kernel_rfl
theorem run_eq (a0 a1 a2 a3 a4 : AV) : pureOf Go.Proofs.Try.prog CC (draws Go.Proofs.Try.prog CC) K Go.Proofs.Try.f59 code [a0, a1, a2, a3, a4] = ref06_sum a0 a1 a2 a3 a4 := by
  unfold pureOf arun
  rw [if_pos (show [a0, a1, a2, a3, a4].length ≤ Go.Proofs.Try.f59.ntmps from (by decide +kernel : 5 ≤ Go.Proofs.Try.f59.ntmps))]
  unfold afin
  rw [show acode Go.Proofs.Try.prog CC (draws Go.Proofs.Try.prog CC) K code (args0 [a0, a1, a2, a3, a4]) AHeap.empty = body ref01_Add.spec ref06_put.spec (args0 [a0, a1, a2, a3, a4]) AHeap.empty from body_eq ref01_Add.spec ref06_put.spec _ _]
  kernel_rfl
theorem sound : Sound Go.Proofs.Try.prog 59 (.pure false spec) := by
  refine (sound_pure CS Mixed (draws _ _) K hf hb hok callable).less fun args r h => ?_
  unfold spec at h
  split at h
  · rw [run_eq]; exact h
  · cases h
end ref06_sum
namespace ref06_shift
noncomputable def code : Code := match Go.Proofs.Try.f61.body with | some c => c | none => .skip
def K : Nat → List Nat
  | 0 => [1, 2, 3, 4, 5, 10]
  | 1 => [4, 5, 10, 11, 12]
  | 2 => [4, 5, 10, 11]
  | 3 => [10]
  | _ => []
noncomputable def CC : Tab := C ref01_Shift.spec ref06_put.spec
theorem CS : CC.Sound Go.Proofs.Try.prog := ((Tab.Sound.none.add ref01_Shift.sound).add ref06_put.sound)
theorem body_eq (s0 s1 : SpecP) (fr : AFr) (H : AHeap) : acode Go.Proofs.Try.prog (C s0 s1) (draws Go.Proofs.Try.prog (C s0 s1)) K code fr H = body s0 s1 fr H := by kernel_rfl
theorem callable : Callable Go.Proofs.Try.prog 61 := fun args w => Go.Proofs.Try.call61 args w
theorem hf : Go.Proofs.Try.prog.funcs[61]? = some Go.Proofs.Try.f61 := Go.Proofs.Try.func61
theorem hb : Go.Proofs.Try.f61.body = some code := by kernel_rfl
theorem hok : codeOk Go.Proofs.Try.f61.ntmps code = true := by kernel_rfl
theorem run_eq (a0 a1 a2 a3 a4 : AV) : pureOf Go.Proofs.Try.prog CC (draws Go.Proofs.Try.prog CC) K Go.Proofs.Try.f61 code [a0, a1, a2, a3, a4] = ref06_shift a0 a1 a2 a3 a4 := by
  unfold pureOf arun
  rw [if_pos (show [a0, a1, a2, a3, a4].length ≤ Go.Proofs.Try.f61.ntmps from (by decide +kernel : 5 ≤ Go.Proofs.Try.f61.ntmps))]
  unfold afin
  rw [show acode Go.Proofs.Try.prog CC (draws Go.Proofs.Try.prog CC) K code (args0 [a0, a1, a2, a3, a4]) AHeap.empty = body ref01_Shift.spec ref06_put.spec (args0 [a0, a1, a2, a3, a4]) AHeap.empty from body_eq ref01_Shift.spec ref06_put.spec _ _]
  kernel_rfl
theorem sound : Sound Go.Proofs.Try.prog 61 (.pure false spec) := by
  refine (sound_pure CS Mixed (draws _ _) K hf hb hok callable).less fun args r h => ?_
  unfold spec at h
  split at h
  · rw [run_eq]; exact h
  · cases h
end ref06_shift
namespace ref06_alu
noncomputable def code : Code := match Go.Proofs.Try.f62.body with | some c => c | none => .skip
def K : Nat → List Nat
  | 0 => [1, 2, 3, 4, 5, 10]
  | 1 => [1, 2, 3, 4, 5, 10, 11]
  | 2 => [1, 2, 3, 4, 5, 10, 11, 12]
  | 3 => [10]
  | 4 => [1, 2, 3, 4, 5, 10, 11, 20]
  | 5 => [10]
  | 6 => [1, 2, 3, 4, 5, 10, 11, 28]
  | 7 => [1, 2, 3, 4, 5, 10, 11, 28]
  | 8 => [1, 2, 3, 4, 5, 10, 11, 28]
  | 9 => [10]
  | 10 => [2, 3, 4, 5, 10, 11, 40]
  | 11 => [10]
  | 12 => [2, 3, 4, 5, 10, 11, 49]
  | 13 => [10]
  | 14 => [2, 3, 4, 5, 10, 11, 59]
  | 15 => [10]
  | 16 => [2, 3, 4, 5, 10, 11, 67]
  | 17 => [10]
  | 18 => [2, 3, 4, 5, 10, 11, 74]
  | 19 => [10]
  | 20 => [2, 3, 4, 5, 10, 11, 81]
  | 21 => [10]
  | 22 => [2, 3, 4, 5, 10, 11, 88]
  | 23 => [10]
  | 24 => [2, 3, 4, 5, 10, 11, 94]
  | 25 => [10]
  | 26 => [2, 3, 4, 5, 10, 11, 102]
  | 27 => [10]
  | 28 => [2, 3, 4, 5, 10, 110]
  | 29 => [10]
  | 30 => [10]
  | _ => []
noncomputable def CC : Tab := C ref06_put.spec ref06_shift.spec ref06_sum.spec ref06_not.spec
theorem CS : CC.Sound Go.Proofs.Try.prog := ((((Tab.Sound.none.add ref06_put.sound).add ref06_shift.sound).add ref06_sum.sound).add ref06_not.sound)
theorem body_eq (s0 s1 s2 s3 : SpecP) (fr : AFr) (H : AHeap) : acode Go.Proofs.Try.prog (C s0 s1 s2 s3) (draws Go.Proofs.Try.prog (C s0 s1 s2 s3)) K code fr H = body s0 s1 s2 s3 fr H := by kernel_rfl
theorem callable : Callable Go.Proofs.Try.prog 62 := fun args w => Go.Proofs.Try.call62 args w
theorem hf : Go.Proofs.Try.prog.funcs[62]? = some Go.Proofs.Try.f62 := Go.Proofs.Try.func62
theorem hb : Go.Proofs.Try.f62.body = some code := by kernel_rfl
theorem hok : codeOk Go.Proofs.Try.f62.ntmps code = true := by kernel_rfl
theorem run_eq (a0 a1 a2 a3 a4 : AV) : pureOf Go.Proofs.Try.prog CC (draws Go.Proofs.Try.prog CC) K Go.Proofs.Try.f62 code [a0, a1, a2, a3, a4] = ref06_alu a0 a1 a2 a3 a4 := by
  unfold pureOf arun
  rw [if_pos (show [a0, a1, a2, a3, a4].length ≤ Go.Proofs.Try.f62.ntmps from (by decide +kernel : 5 ≤ Go.Proofs.Try.f62.ntmps))]
  unfold afin
  rw [show acode Go.Proofs.Try.prog CC (draws Go.Proofs.Try.prog CC) K code (args0 [a0, a1, a2, a3, a4]) AHeap.empty = body ref06_put.spec ref06_shift.spec ref06_sum.spec ref06_not.spec (args0 [a0, a1, a2, a3, a4]) AHeap.empty from body_eq ref06_put.spec ref06_shift.spec ref06_sum.spec ref06_not.spec _ _]
  kernel_rfl
theorem sound : Sound Go.Proofs.Try.prog 62 (.pure false spec) := by
  refine (sound_pure CS Mixed (draws _ _) K hf hb hok callable).less fun args r h => ?_
  unfold spec at h
  split at h
  · rw [run_eq]; exact h
  · cases h
end ref06_alu
namespace ref06_Holds
noncomputable def code : Code := match Go.Proofs.Try.f64.body with | some c => c | none => .skip
def K : Nat → List Nat
  | 0 => [0, 3]
  | 1 => [0, 3, 10]
  | 2 => [4]
  | 3 => [4]
  | _ => []
noncomputable def CC : Tab := C
theorem CS : CC.Sound Go.Proofs.Try.prog := Tab.Sound.none
theorem body_eq (fr : AFr) (H : AHeap) : acode Go.Proofs.Try.prog C (draws Go.Proofs.Try.prog C) K code fr H = body fr H := by kernel_rfl
theorem callable : Callable Go.Proofs.Try.prog 64 := fun args w => Go.Proofs.Try.call64 args w
theorem hf : Go.Proofs.Try.prog.funcs[64]? = some Go.Proofs.Try.f64 := Go.Proofs.Try.func64
theorem hb : Go.Proofs.Try.f64.body = some code := by kernel_rfl
theorem hok : codeOk Go.Proofs.Try.f64.ntmps code = true := by kernel_rfl
theorem run_eq (a0 a1 : AV) : pureOf Go.Proofs.Try.prog CC (draws Go.Proofs.Try.prog CC) K Go.Proofs.Try.f64 code [a0, a1] = ref06_Holds a0 a1 := by
  unfold pureOf arun
  rw [if_pos (show [a0, a1].length ≤ Go.Proofs.Try.f64.ntmps from (by decide +kernel : 2 ≤ Go.Proofs.Try.f64.ntmps))]
  unfold afin
  rw [show acode Go.Proofs.Try.prog CC (draws Go.Proofs.Try.prog CC) K code (args0 [a0, a1]) AHeap.empty = body (args0 [a0, a1]) AHeap.empty from body_eq _ _]
  kernel_rfl
theorem sound : Sound Go.Proofs.Try.prog 64 (.pure false spec) := by
  refine (sound_pure CS Mixed (draws _ _) K hf hb hok callable).less fun args r h => ?_
  unfold spec at h
  split at h
  · rw [run_eq]; exact h
  · cases h
end ref06_Holds
namespace ref06_Step
noncomputable def code : Code := match Go.Proofs.Try.f18.body with | some c => c | none => .skip
def K : Nat → List Nat
  | 0 => [1, 2, 4]
  | 1 => [1, 2, 4, 7, 8]
  | 2 => [1, 2, 4, 7, 8, 25]
  | 3 => [4, 5, 6]
  | 4 => [1, 2, 4, 9, 10]
  | 5 => [1, 2, 4, 9, 10, 34]
  | 6 => [4, 5, 6]
  | 7 => [1, 2, 4, 9, 11, 12, 13]
  | 8 => [1, 2, 4, 9, 11, 12, 13, 14, 15, 16]
  | 9 => [1, 2, 4, 8, 9, 11, 12, 13, 14, 15, 16]
  | 10 => [1, 2, 4, 8, 9, 11, 12, 13, 14, 15, 16, 61]
  | 11 => [1, 2, 4, 8, 9, 11, 12, 13, 14, 15, 16, 61, 62]
  | 12 => [2, 4, 8, 12, 13]
  | 13 => [1, 2, 4, 8, 9, 11, 12, 13, 14, 15, 16, 61, 69]
  | 14 => [2, 4, 8, 12, 13]
  | 15 => [1, 2, 4, 8, 9, 11, 12, 13, 14, 15, 16, 61, 76]
  | 16 => [2, 4, 8, 12, 13]
  | 17 => [1, 2, 4, 8, 9, 11, 12, 13, 14, 15, 16, 61, 84]
  | 18 => [2, 4, 8, 12, 13]
  | 19 => [1, 2, 4, 8, 9, 11, 12, 13, 14, 15, 16, 61, 93]
  | 20 => [1, 2, 4, 8, 9, 11, 12, 13, 14, 15, 16, 61, 93]
  | 21 => [1, 2, 4, 8, 9, 11, 12, 13, 14, 15, 16, 61, 93]
  | 22 => [2, 4, 8, 12, 13]
  | 23 => [1, 2, 4, 8, 9, 11, 12, 13, 14, 15, 16, 61, 106]
  | 24 => [2, 4, 8, 12, 13]
  | 25 => [1, 2, 4, 8, 9, 11, 12, 13, 14, 15, 16, 61, 114]
  | 26 => [2, 4, 8, 12, 13]
  | 27 => [1, 2, 4, 8, 9, 11, 12, 13, 14, 15, 16, 61, 123]
  | 28 => [2, 4, 8, 12, 13]
  | 29 => [1, 2, 4, 8, 9, 11, 12, 13, 14, 15, 16, 61, 131]
  | 30 => [2, 4, 8, 12, 13]
  | 31 => [1, 2, 4, 8, 9, 11, 12, 13, 14, 15, 16, 61, 140]
  | 32 => [2, 4, 8, 12, 13]
  | 33 => [1, 2, 4, 8, 9, 11, 12, 13, 14, 15, 16, 61, 150]
  | 34 => [2, 4, 8, 12, 13]
  | 35 => [1, 2, 4, 8, 9, 11, 12, 13, 14, 15, 16, 61, 165]
  | 36 => [2, 4, 8, 12, 13]
  | 37 => [1, 2, 4, 8, 9, 11, 12, 13, 14, 15, 16, 61, 174]
  | 38 => [2, 4, 8, 12, 13]
  | 39 => [1, 2, 4, 8, 9, 11, 12, 13, 14, 15, 16, 61, 188]
  | 40 => [2, 4, 8, 12, 13]
  | 41 => [1, 2, 4, 8, 9, 11, 12, 13, 61, 196]
  | 42 => [2, 4, 8, 12, 13]
  | 43 => [2, 4, 8, 9, 11, 12, 13, 61, 215]
  | 44 => [2, 4, 8, 12, 13]
  | 45 => [2, 4, 8, 9, 11, 12, 13, 61, 224]
  | 46 => [2, 4, 8, 11, 12, 13, 229]
  | 47 => [2, 4, 8, 12, 13]
  | 48 => [2, 4, 8, 12, 13, 237]
  | 49 => [4, 5, 6]
  | 50 => [2, 4, 8, 12, 13, 241]
  | 51 => [4, 5, 6]
  | 52 => [4, 12]
  | 53 => [4, 5, 6]
  | _ => []
noncomputable def CC : Tab := C ref05_Mem_Fetch.spec ref02_Take.spec ref06_put.spec ref06_not.spec ref06_sum.spec ref06_shift.spec ref06_alu.spec ref05_Mem_Load.spec ref05_Mem_Store.spec ref06_Holds.spec
theorem CS : CC.Sound Go.Proofs.Try.prog := ((((((((((Tab.Sound.none.add ref05_Mem_Fetch.sound).add ref02_Take.sound).add ref06_put.sound).add ref06_not.sound).add ref06_sum.sound).add ref06_shift.sound).add ref06_alu.sound).add ref05_Mem_Load.sound).add ref05_Mem_Store.sound).add ref06_Holds.sound)
theorem body_eq (s0 : SpecM) (s1 s2 s3 s4 s5 s6 : SpecP) (s7 s8 : SpecM) (s9 : SpecP) (fr : AFr) (H : AHeap) : acode Go.Proofs.Try.prog (C s0 s1 s2 s3 s4 s5 s6 s7 s8 s9) (draws Go.Proofs.Try.prog (C s0 s1 s2 s3 s4 s5 s6 s7 s8 s9)) K code fr H = body s0 s1 s2 s3 s4 s5 s6 s7 s8 s9 fr H := by kernel_rfl
theorem callable : Callable Go.Proofs.Try.prog 18 := fun args w => Go.Proofs.Try.call18 args w
theorem hf : Go.Proofs.Try.prog.funcs[18]? = some Go.Proofs.Try.f18 := Go.Proofs.Try.func18
theorem hb : Go.Proofs.Try.f18.body = some code := by kernel_rfl
theorem hok : codeOk Go.Proofs.Try.f18.ntmps code = true := by kernel_rfl
theorem run_eq (a0 a1 : AV) (H : AHeap) : refT Go.Proofs.Try.prog CC (draws Go.Proofs.Try.prog CC) K Go.Proofs.Try.f18 code [a0, a1] H = ref06_Step a0 a1 H := by
  unfold refT arun
  rw [if_pos (show [a0, a1].length ≤ Go.Proofs.Try.f18.ntmps from (by decide +kernel : 2 ≤ Go.Proofs.Try.f18.ntmps))]
  unfold afin
  rw [show acode Go.Proofs.Try.prog CC (draws Go.Proofs.Try.prog CC) K code (args0 [a0, a1]) H = body ref05_Mem_Fetch.spec ref02_Take.spec ref06_put.spec ref06_not.spec ref06_sum.spec ref06_shift.spec ref06_alu.spec ref05_Mem_Load.spec ref05_Mem_Store.spec ref06_Holds.spec (args0 [a0, a1]) H from body_eq ref05_Mem_Fetch.spec ref02_Take.spec ref06_put.spec ref06_not.spec ref06_sum.spec ref06_shift.spec ref06_alu.spec ref05_Mem_Load.spec ref05_Mem_Store.spec ref06_Holds.spec _ _]
  kernel_rfl
theorem sound : Sound Go.Proofs.Try.prog 18 (.ref [true, false] spec) := by
  refine (sound_refT CS Mixed (draws _ _) K hf hb hok callable [true, false]).lessR fun args H r h => ?_
  unfold spec at h
  split at h
  · rw [run_eq]; exact h
  · cases h
end ref06_Step
end Go.Abs
