/-
  That the program's functions are these. Printed by gen.py.
-/
import Derived.Test.YtncablokgkejjaaCoF
import Derived.Test.YtncablokgkejjaaLoP
set_option linter.unusedSimpArgs false
set_option linter.unusedVariables false
namespace Go.Abs
namespace core_holds
noncomputable def code : Code := match Go.Proofs.Try.f52.body with | some c => c | none => .skip
def K : Nat → List Nat
  | 0 => [0, 3]
  | 1 => [0, 3, 5]
  | 2 => [0, 3, 5, 7]
  | 3 => [0, 3, 5, 7, 8]
  | 4 => [0, 5]
  | 5 => [0, 3, 5, 7, 12]
  | 6 => [0, 5]
  | 7 => [0, 3, 5, 7, 16]
  | 8 => [0, 5]
  | 9 => [0, 3, 5, 7, 20]
  | 10 => [0, 5]
  | 11 => [0, 3, 5, 7, 24]
  | 12 => [0, 5]
  | 13 => [0, 3, 5, 7, 33]
  | 14 => [0, 5]
  | 15 => [0, 3, 5, 40]
  | 16 => [0, 5]
  | 17 => [4]
  | _ => []
noncomputable def CC : Tab := C
theorem CS : CC.Sound Go.Proofs.Try.prog := Tab.Sound.none
theorem body_eq (fr : AFr) (H : AHeap) : acode Go.Proofs.Try.prog C (draws Go.Proofs.Try.prog C) K code fr H = body fr H := by kernel_rfl
theorem callable : Callable Go.Proofs.Try.prog 52 := fun args w => Go.Proofs.Try.call52 args w
theorem hf : Go.Proofs.Try.prog.funcs[52]? = some Go.Proofs.Try.f52 := Go.Proofs.Try.func52
theorem hb : Go.Proofs.Try.f52.body = some code := by kernel_rfl
theorem hok : codeOk Go.Proofs.Try.f52.ntmps code = true := by kernel_rfl
theorem run_eq (a0 a1 : AV) : pureOf Go.Proofs.Try.prog CC (draws Go.Proofs.Try.prog CC) K Go.Proofs.Try.f52 code [a0, a1] = core_holds a0 a1 := by
  unfold pureOf arun
  rw [if_pos (show [a0, a1].length ≤ Go.Proofs.Try.f52.ntmps from (by decide +kernel : 2 ≤ Go.Proofs.Try.f52.ntmps))]
  unfold afin
  rw [show acode Go.Proofs.Try.prog CC (draws Go.Proofs.Try.prog CC) K code (args0 [a0, a1]) AHeap.empty = body (args0 [a0, a1]) AHeap.empty from body_eq _ _]
  kernel_rfl
theorem sound : Sound Go.Proofs.Try.prog 52 (.pure false spec) := by
  refine (sound_pure CS Mixed (draws _ _) K hf hb hok callable).less fun args r h => ?_
  unfold spec at h
  split at h
  · rw [run_eq]; exact h
  · cases h
end core_holds
namespace core_addr
noncomputable def code : Code := match Go.Proofs.Try.f79.body with | some c => c | none => .skip
def K : Nat → List Nat
  | 0 => [2, 3]
  | 1 => [2, 3, 6]
  | 2 => [2, 3, 6, 7]
  | 3 => [2, 3, 6, 7]
  | 4 => [4]
  | 5 => [2, 3, 21]
  | 6 => [4]
  | 7 => [4]
  | _ => []
noncomputable def CC : Tab := C
theorem CS : CC.Sound Go.Proofs.Try.prog := Tab.Sound.none
theorem body_eq (fr : AFr) (H : AHeap) : acode Go.Proofs.Try.prog C (draws Go.Proofs.Try.prog C) K code fr H = body fr H := by kernel_rfl
theorem callable : Callable Go.Proofs.Try.prog 79 := fun args w => Go.Proofs.Try.call79 args w
theorem hf : Go.Proofs.Try.prog.funcs[79]? = some Go.Proofs.Try.f79 := Go.Proofs.Try.func79
theorem hb : Go.Proofs.Try.f79.body = some code := by kernel_rfl
theorem hok : codeOk Go.Proofs.Try.f79.ntmps code = true := by kernel_rfl
theorem run_eq (a0 a1 : AV) : pureOf Go.Proofs.Try.prog CC (draws Go.Proofs.Try.prog CC) K Go.Proofs.Try.f79 code [a0, a1] = core_addr a0 a1 := by
  unfold pureOf arun
  rw [if_pos (show [a0, a1].length ≤ Go.Proofs.Try.f79.ntmps from (by decide +kernel : 2 ≤ Go.Proofs.Try.f79.ntmps))]
  unfold afin
  rw [show acode Go.Proofs.Try.prog CC (draws Go.Proofs.Try.prog CC) K code (args0 [a0, a1]) AHeap.empty = body (args0 [a0, a1]) AHeap.empty from body_eq _ _]
  kernel_rfl
theorem sound : Sound Go.Proofs.Try.prog 79 (.pure false spec) := by
  refine (sound_pure CS Mixed (draws _ _) K hf hb hok callable).less fun args r h => ?_
  unfold spec at h
  split at h
  · rw [run_eq]; exact h
  · cases h
end core_addr
namespace core_moves
noncomputable def code : Code := match Go.Proofs.Try.f53.body with | some c => c | none => .skip
def K : Nat → List Nat
  | 0 => [2, 3, 4, 6]
  | 1 => [2, 3, 4, 6, 17]
  | 2 => [6, 7]
  | 3 => [3, 4, 6, 8, 9]
  | 4 => [3, 4, 6, 8, 9, 38]
  | 5 => [3, 6, 9]
  | 6 => [6, 7]
  | _ => []
noncomputable def CC : Tab := C core_addr.spec mem_Mem_Store.spec mem_Mem_Load.spec
theorem CS : CC.Sound Go.Proofs.Try.prog := (((Tab.Sound.none.add core_addr.sound).add mem_Mem_Store.sound).add mem_Mem_Load.sound)
theorem body_eq (s0 : SpecP) (s1 s2 : SpecM) (fr : AFr) (H : AHeap) : acode Go.Proofs.Try.prog (C s0 s1 s2) (draws Go.Proofs.Try.prog (C s0 s1 s2)) K code fr H = body s0 s1 s2 fr H := by kernel_rfl
theorem callable : Callable Go.Proofs.Try.prog 53 := fun args w => Go.Proofs.Try.call53 args w
theorem hf : Go.Proofs.Try.prog.funcs[53]? = some Go.Proofs.Try.f53 := Go.Proofs.Try.func53
theorem hb : Go.Proofs.Try.f53.body = some code := by kernel_rfl
theorem hok : codeOk Go.Proofs.Try.f53.ntmps code = true := by kernel_rfl
theorem run_eq (a0 a1 a2 : AV) (H : AHeap) : refT Go.Proofs.Try.prog CC (draws Go.Proofs.Try.prog CC) K Go.Proofs.Try.f53 code [a0, a1, a2] H = core_moves a0 a1 a2 H := by
  unfold refT arun
  rw [if_pos (show [a0, a1, a2].length ≤ Go.Proofs.Try.f53.ntmps from (by decide +kernel : 3 ≤ Go.Proofs.Try.f53.ntmps))]
  unfold afin
  rw [show acode Go.Proofs.Try.prog CC (draws Go.Proofs.Try.prog CC) K code (args0 [a0, a1, a2]) H = body core_addr.spec mem_Mem_Store.spec mem_Mem_Load.spec (args0 [a0, a1, a2]) H from body_eq core_addr.spec mem_Mem_Store.spec mem_Mem_Load.spec _ _]
  kernel_rfl
theorem sound : Sound Go.Proofs.Try.prog 53 (.ref [true, true, false] spec) := by
  refine (sound_refT CS Mixed (draws _ _) K hf hb hok callable [true, true, false]).lessR fun args H r h => ?_
  unfold spec at h
  split at h
  · rw [run_eq]; exact h
  · cases h
end core_moves
namespace core_flags
noncomputable def code : Code := match Go.Proofs.Try.f80.body with | some c => c | none => .skip
def K : Nat → List Nat
  | 0 => [1, 2, 4]
  | 1 => [2, 4]
  | 2 => [4]
  | _ => []
noncomputable def CC : Tab := C
theorem CS : CC.Sound Go.Proofs.Try.prog := Tab.Sound.none
theorem body_eq (fr : AFr) (H : AHeap) : acode Go.Proofs.Try.prog C (draws Go.Proofs.Try.prog C) K code fr H = body fr H := by kernel_rfl
theorem callable : Callable Go.Proofs.Try.prog 80 := fun args w => Go.Proofs.Try.call80 args w
theorem hf : Go.Proofs.Try.prog.funcs[80]? = some Go.Proofs.Try.f80 := Go.Proofs.Try.func80
theorem hb : Go.Proofs.Try.f80.body = some code := by kernel_rfl
theorem hok : codeOk Go.Proofs.Try.f80.ntmps code = true := by kernel_rfl
theorem run_eq (a0 a1 : AV) : pureOf Go.Proofs.Try.prog CC (draws Go.Proofs.Try.prog CC) K Go.Proofs.Try.f80 code [a0, a1] = core_flags a0 a1 := by
  unfold pureOf arun
  rw [if_pos (show [a0, a1].length ≤ Go.Proofs.Try.f80.ntmps from (by decide +kernel : 2 ≤ Go.Proofs.Try.f80.ntmps))]
  unfold afin
  rw [show acode Go.Proofs.Try.prog CC (draws Go.Proofs.Try.prog CC) K code (args0 [a0, a1]) AHeap.empty = body (args0 [a0, a1]) AHeap.empty from body_eq _ _]
  kernel_rfl
theorem sound : Sound Go.Proofs.Try.prog 80 (.pure false spec) := by
  refine (sound_pure CS Mixed (draws _ _) K hf hb hok callable).less fun args r h => ?_
  unfold spec at h
  split at h
  · rw [run_eq]; exact h
  · cases h
end core_flags
namespace core_add
noncomputable def code : Code := match Go.Proofs.Try.f81.body with | some c => c | none => .skip
def K : Nat → List Nat
  | 0 => [1, 2, 3, 4, 8]
  | 1 => [4, 8, 10, 11, 12]
  | 2 => [4, 8, 10]
  | 3 => [8, 9]
  | _ => []
noncomputable def CC : Tab := C word_Add.spec core_flags.spec
theorem CS : CC.Sound Go.Proofs.Try.prog := ((Tab.Sound.none.add word_Add.sound).add core_flags.sound)
theorem body_eq (s0 s1 : SpecP) (fr : AFr) (H : AHeap) : acode Go.Proofs.Try.prog (C s0 s1) (draws Go.Proofs.Try.prog (C s0 s1)) K code fr H = body s0 s1 fr H := by kernel_rfl
theorem callable : Callable Go.Proofs.Try.prog 81 := fun args w => Go.Proofs.Try.call81 args w
theorem hf : Go.Proofs.Try.prog.funcs[81]? = some Go.Proofs.Try.f81 := Go.Proofs.Try.func81
theorem hb : Go.Proofs.Try.f81.body = some code := by kernel_rfl
theorem hok : codeOk Go.Proofs.Try.f81.ntmps code = true := by kernel_rfl
theorem run_eq (a0 a1 a2 a3 : AV) : pureOf Go.Proofs.Try.prog CC (draws Go.Proofs.Try.prog CC) K Go.Proofs.Try.f81 code [a0, a1, a2, a3] = core_add a0 a1 a2 a3 := by
  unfold pureOf arun
  rw [if_pos (show [a0, a1, a2, a3].length ≤ Go.Proofs.Try.f81.ntmps from (by decide +kernel : 4 ≤ Go.Proofs.Try.f81.ntmps))]
  unfold afin
  rw [show acode Go.Proofs.Try.prog CC (draws Go.Proofs.Try.prog CC) K code (args0 [a0, a1, a2, a3]) AHeap.empty = body word_Add.spec core_flags.spec (args0 [a0, a1, a2, a3]) AHeap.empty from body_eq word_Add.spec core_flags.spec _ _]
  kernel_rfl
theorem sound : Sound Go.Proofs.Try.prog 81 (.pure false spec) := by
  refine (sound_pure CS Mixed (draws _ _) K hf hb hok callable).less fun args r h => ?_
  unfold spec at h
  split at h
  · rw [run_eq]; exact h
  · cases h
end core_add
namespace core_shift
noncomputable def code : Code := match Go.Proofs.Try.f82.body with | some c => c | none => .skip
def K : Nat → List Nat
  | 0 => [1, 2, 3, 4, 8]
  | 1 => [4, 8, 10, 11]
  | 2 => [4, 8, 10]
  | 3 => [8, 9]
  | _ => []
noncomputable def CC : Tab := C word_Shift.spec core_flags.spec
theorem CS : CC.Sound Go.Proofs.Try.prog := ((Tab.Sound.none.add word_Shift.sound).add core_flags.sound)
theorem body_eq (s0 s1 : SpecP) (fr : AFr) (H : AHeap) : acode Go.Proofs.Try.prog (C s0 s1) (draws Go.Proofs.Try.prog (C s0 s1)) K code fr H = body s0 s1 fr H := by kernel_rfl
theorem callable : Callable Go.Proofs.Try.prog 82 := fun args w => Go.Proofs.Try.call82 args w
theorem hf : Go.Proofs.Try.prog.funcs[82]? = some Go.Proofs.Try.f82 := Go.Proofs.Try.func82
theorem hb : Go.Proofs.Try.f82.body = some code := by kernel_rfl
theorem hok : codeOk Go.Proofs.Try.f82.ntmps code = true := by kernel_rfl
theorem run_eq (a0 a1 a2 a3 : AV) : pureOf Go.Proofs.Try.prog CC (draws Go.Proofs.Try.prog CC) K Go.Proofs.Try.f82 code [a0, a1, a2, a3] = core_shift a0 a1 a2 a3 := by
  unfold pureOf arun
  rw [if_pos (show [a0, a1, a2, a3].length ≤ Go.Proofs.Try.f82.ntmps from (by decide +kernel : 4 ≤ Go.Proofs.Try.f82.ntmps))]
  unfold afin
  rw [show acode Go.Proofs.Try.prog CC (draws Go.Proofs.Try.prog CC) K code (args0 [a0, a1, a2, a3]) AHeap.empty = body word_Shift.spec core_flags.spec (args0 [a0, a1, a2, a3]) AHeap.empty from body_eq word_Shift.spec core_flags.spec _ _]
  kernel_rfl
theorem sound : Sound Go.Proofs.Try.prog 82 (.pure false spec) := by
  refine (sound_pure CS Mixed (draws _ _) K hf hb hok callable).less fun args r h => ?_
  unfold spec at h
  split at h
  · rw [run_eq]; exact h
  · cases h
end core_shift
namespace core_alu
noncomputable def code : Code := match Go.Proofs.Try.f83.body with | some c => c | none => .skip
def K : Nat → List Nat
  | 0 => [1, 2, 3, 4, 8]
  | 1 => [1, 2, 3, 4, 8, 10]
  | 2 => [1, 2, 3, 4, 8, 10, 11]
  | 3 => [1, 2, 3, 4, 8, 10, 11, 12]
  | 4 => [1, 2, 3, 4, 8, 10, 11, 12]
  | 5 => [4, 8, 10]
  | 6 => [1, 2, 3, 4, 8, 10, 11, 18]
  | 7 => [4, 8, 10]
  | 8 => [1, 2, 3, 4, 8, 10, 11, 23]
  | 9 => [4, 8, 10]
  | 10 => [1, 2, 3, 4, 8, 10, 11, 28]
  | 11 => [4, 8, 10]
  | 12 => [1, 2, 3, 4, 8, 10, 11, 33]
  | 13 => [4, 8, 10]
  | 14 => [1, 2, 3, 4, 8, 10, 11, 37]
  | 15 => [4, 8, 10]
  | 16 => [1, 2, 3, 4, 8, 10, 11, 42]
  | 17 => [1, 2, 3, 4, 8, 10, 11, 42]
  | 18 => [1, 2, 3, 4, 8, 10, 11, 42]
  | 19 => [8, 9]
  | 20 => [2, 3, 4, 8, 10, 11, 56]
  | 21 => [8, 9]
  | 22 => [2, 3, 4, 8, 10, 11, 65]
  | 23 => [8, 9]
  | 24 => [2, 3, 4, 8, 10, 11, 75]
  | 25 => [8, 9]
  | 26 => [2, 3, 4, 8, 10, 11, 86]
  | 27 => [8, 9]
  | 28 => [2, 3, 4, 8, 10, 11, 94]
  | 29 => [8, 9]
  | 30 => [2, 3, 4, 8, 10, 103]
  | 31 => [8, 9]
  | 32 => [8, 9]
  | _ => []
noncomputable def CC : Tab := C core_shift.spec core_add.spec core_flags.spec
theorem CS : CC.Sound Go.Proofs.Try.prog := (((Tab.Sound.none.add core_shift.sound).add core_add.sound).add core_flags.sound)
theorem body_eq (s0 s1 s2 : SpecP) (fr : AFr) (H : AHeap) : acode Go.Proofs.Try.prog (C s0 s1 s2) (draws Go.Proofs.Try.prog (C s0 s1 s2)) K code fr H = body s0 s1 s2 fr H := by kernel_rfl
theorem callable : Callable Go.Proofs.Try.prog 83 := fun args w => Go.Proofs.Try.call83 args w
theorem hf : Go.Proofs.Try.prog.funcs[83]? = some Go.Proofs.Try.f83 := Go.Proofs.Try.func83
theorem hb : Go.Proofs.Try.f83.body = some code := by kernel_rfl
theorem hok : codeOk Go.Proofs.Try.f83.ntmps code = true := by kernel_rfl
theorem run_eq (a0 a1 a2 a3 : AV) : pureOf Go.Proofs.Try.prog CC (draws Go.Proofs.Try.prog CC) K Go.Proofs.Try.f83 code [a0, a1, a2, a3] = core_alu a0 a1 a2 a3 := by
  unfold pureOf arun
  rw [if_pos (show [a0, a1, a2, a3].length ≤ Go.Proofs.Try.f83.ntmps from (by decide +kernel : 4 ≤ Go.Proofs.Try.f83.ntmps))]
  unfold afin
  rw [show acode Go.Proofs.Try.prog CC (draws Go.Proofs.Try.prog CC) K code (args0 [a0, a1, a2, a3]) AHeap.empty = body core_shift.spec core_add.spec core_flags.spec (args0 [a0, a1, a2, a3]) AHeap.empty from body_eq core_shift.spec core_add.spec core_flags.spec _ _]
  kernel_rfl
theorem sound : Sound Go.Proofs.Try.prog 83 (.pure false spec) := by
  refine (sound_pure CS Mixed (draws _ _) K hf hb hok callable).less fun args r h => ?_
  unfold spec at h
  split at h
  · rw [run_eq]; exact h
  · cases h
end core_alu
namespace core_reckons
noncomputable def code : Code := match Go.Proofs.Try.f54.body with | some c => c | none => .skip
def K : Nat → List Nat
  | 0 => [2, 3, 4]
  | 1 => [2, 3, 4, 6]
  | 2 => [2, 3, 4, 6, 7, 8, 9]
  | 3 => [2, 3, 4, 6, 7, 8, 9, 29]
  | 4 => [2, 3, 4, 6, 7, 8, 9, 29, 30]
  | 5 => [4, 5]
  | 6 => [2, 3, 4, 6, 7, 8, 9, 29, 36]
  | 7 => [2, 3, 4, 6, 7, 8, 9, 29, 36]
  | 8 => [4, 5]
  | 9 => [2, 3, 4, 6, 7, 8, 9, 29, 46]
  | 10 => [4, 5]
  | 11 => [2, 3, 4, 6, 7, 8, 9, 29, 54]
  | 12 => [2, 3, 4, 6, 7, 8, 9, 29, 54]
  | 13 => [2, 3, 4, 6, 7, 8, 9, 29, 54]
  | 14 => [4, 5]
  | 15 => [2, 3, 4, 6, 7, 8, 9, 29, 68]
  | 16 => [4, 5]
  | 17 => [2, 3, 4, 6, 7, 8, 9, 29, 76]
  | 18 => [4, 5]
  | 19 => [2, 3, 4, 6, 7, 8, 9, 29, 85]
  | 20 => [4, 5]
  | 21 => [2, 3, 4, 6, 7, 8, 9, 93]
  | 22 => [4, 5]
  | 23 => [4, 5]
  | _ => []
noncomputable def CC : Tab := C core_flags.spec core_add.spec core_shift.spec core_alu.spec
theorem CS : CC.Sound Go.Proofs.Try.prog := ((((Tab.Sound.none.add core_flags.sound).add core_add.sound).add core_shift.sound).add core_alu.sound)
theorem body_eq (s0 s1 s2 s3 : SpecP) (fr : AFr) (H : AHeap) : acode Go.Proofs.Try.prog (C s0 s1 s2 s3) (draws Go.Proofs.Try.prog (C s0 s1 s2 s3)) K code fr H = body s0 s1 s2 s3 fr H := by kernel_rfl
theorem callable : Callable Go.Proofs.Try.prog 54 := fun args w => Go.Proofs.Try.call54 args w
theorem hf : Go.Proofs.Try.prog.funcs[54]? = some Go.Proofs.Try.f54 := Go.Proofs.Try.func54
theorem hb : Go.Proofs.Try.f54.body = some code := by kernel_rfl
theorem hok : codeOk Go.Proofs.Try.f54.ntmps code = true := by kernel_rfl
theorem run_eq (a0 a1 : AV) : pureOf Go.Proofs.Try.prog CC (draws Go.Proofs.Try.prog CC) K Go.Proofs.Try.f54 code [a0, a1] = core_reckons a0 a1 := by
  unfold pureOf arun
  rw [if_pos (show [a0, a1].length ≤ Go.Proofs.Try.f54.ntmps from (by decide +kernel : 2 ≤ Go.Proofs.Try.f54.ntmps))]
  unfold afin
  rw [show acode Go.Proofs.Try.prog CC (draws Go.Proofs.Try.prog CC) K code (args0 [a0, a1]) AHeap.empty = body core_flags.spec core_add.spec core_shift.spec core_alu.spec (args0 [a0, a1]) AHeap.empty from body_eq core_flags.spec core_add.spec core_shift.spec core_alu.spec _ _]
  kernel_rfl
theorem sound : Sound Go.Proofs.Try.prog 54 (.pure false spec) := by
  refine (sound_pure CS Mixed (draws _ _) K hf hb hok callable).less fun args r h => ?_
  unfold spec at h
  split at h
  · rw [run_eq]; exact h
  · cases h
end core_reckons
namespace core_Step
noncomputable def code : Code := match Go.Proofs.Try.f17.body with | some c => c | none => .skip
def K : Nat → List Nat
  | 0 => [1, 2, 4]
  | 1 => [1, 2, 4, 16]
  | 2 => [4, 5, 6]
  | 3 => [1, 2, 4, 7, 8]
  | 4 => [1, 2, 4, 7, 8, 26]
  | 5 => [4, 5, 6]
  | 6 => [1, 2, 4, 8, 9]
  | 7 => [1, 2, 4, 8, 9, 35]
  | 8 => [4, 5, 6]
  | 9 => [1, 2, 4, 9, 10]
  | 10 => [1, 2, 4, 9, 10, 11]
  | 11 => [1, 2, 4, 9, 10, 11, 43]
  | 17 => [1, 2, 4, 9, 10, 11, 43, 60]
  | 18 => [4, 5, 6]
  | 19 => [1, 2, 4, 9, 10, 11, 43, 63]
  | 20 => [1, 2, 4, 9, 10, 11, 43, 65]
  | 21 => [2, 4, 9, 10, 11, 70]
  | 22 => [4, 10, 11]
  | 23 => [1, 2, 4, 9, 10, 11, 43, 79]
  | 24 => [4, 10, 11]
  | 25 => [1, 2, 4, 9, 10, 11, 43, 89]
  | 26 => [1, 2, 4, 9, 10, 11, 43, 89]
  | 27 => [1, 2, 4, 9, 10, 11, 43, 89]
  | 28 => [1, 2, 4, 9, 10, 11, 43, 89]
  | 29 => [1, 2, 4, 9, 10, 11, 89]
  | 30 => [2, 4, 8, 10, 11]
  | 31 => [2, 4, 8, 10, 11, 103]
  | 32 => [4, 5, 6]
  | 12 => [2, 4, 9, 10, 11]
  | 13 => [4, 9, 10, 11, 12]
  | 14 => [4, 10, 11, 12, 13, 14]
  | 15 => [4, 10, 11, 12, 13, 55]
  | 16 => [4, 10, 11]
  | 33 => [4, 10]
  | 34 => [4, 5, 6]
  | _ => []
noncomputable def CC : Tab := C mem_Mem_Fetch.spec thumb_Take.spec core_holds.spec core_moves.spec core_reckons.spec thumb_Writes.spec
theorem CS : CC.Sound Go.Proofs.Try.prog := ((((((Tab.Sound.none.add mem_Mem_Fetch.sound).add thumb_Take.sound).add core_holds.sound).add core_moves.sound).add core_reckons.sound).add thumb_Writes.sound)
theorem body_eq (s0 : SpecM) (s1 s2 : SpecP) (s3 : SpecM) (s4 s5 : SpecP) (fr : AFr) (H : AHeap) : acode Go.Proofs.Try.prog (C s0 s1 s2 s3 s4 s5) (draws Go.Proofs.Try.prog (C s0 s1 s2 s3 s4 s5)) K code fr H = body s0 s1 s2 s3 s4 s5 fr H := by kernel_rfl
theorem callable : Callable Go.Proofs.Try.prog 17 := fun args w => Go.Proofs.Try.call17 args w
theorem hf : Go.Proofs.Try.prog.funcs[17]? = some Go.Proofs.Try.f17 := Go.Proofs.Try.func17
theorem hb : Go.Proofs.Try.f17.body = some code := by kernel_rfl
theorem hok : codeOk Go.Proofs.Try.f17.ntmps code = true := by kernel_rfl
theorem run_eq (a0 a1 : AV) (H : AHeap) : refT Go.Proofs.Try.prog CC (draws Go.Proofs.Try.prog CC) K Go.Proofs.Try.f17 code [a0, a1] H = core_Step a0 a1 H := by
  unfold refT arun
  rw [if_pos (show [a0, a1].length ≤ Go.Proofs.Try.f17.ntmps from (by decide +kernel : 2 ≤ Go.Proofs.Try.f17.ntmps))]
  unfold afin
  rw [show acode Go.Proofs.Try.prog CC (draws Go.Proofs.Try.prog CC) K code (args0 [a0, a1]) H = body mem_Mem_Fetch.spec thumb_Take.spec core_holds.spec core_moves.spec core_reckons.spec thumb_Writes.spec (args0 [a0, a1]) H from body_eq mem_Mem_Fetch.spec thumb_Take.spec core_holds.spec core_moves.spec core_reckons.spec thumb_Writes.spec _ _]
  kernel_rfl
theorem sound : Sound Go.Proofs.Try.prog 17 (.ref [true, false] spec) := by
  refine (sound_refT CS Mixed (draws _ _) K hf hb hok callable [true, false]).lessR fun args H r h => ?_
  unfold spec at h
  split at h
  · rw [run_eq]; exact h
  · cases h
end core_Step
end Go.Abs
