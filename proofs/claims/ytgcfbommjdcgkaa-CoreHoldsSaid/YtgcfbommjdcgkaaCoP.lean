/-
  That the program's functions are these. Printed by gen.py.
-/
import Derived.Test.YtgcfbommjdcgkaaCoF
import Derived.Test.YtgcfbommjdcgkaaLoP
set_option linter.unusedSimpArgs false
set_option linter.unusedVariables false
namespace Go.Abs
/-! bauta/core.holds -/
namespace core_holds
noncomputable def code : Code := match Go.Proofs.Try.f49.body with | some c => c | none => .skip
def K : Nat → List Nat
  | 0 => [0, 3]
  | 1 => [0, 3, 5]
  | 2 => [0, 3, 5, 7]
  | 3 => [0, 3, 5, 7, 8]
  | 4 => [0, 5]
  | 5 => [0, 3, 5, 7, 12]
  | 6 => [0, 5]
  | 7 => [0, 3, 5, 7, 16]
  | 8 => [0, 5]
  | 9 => [0, 3, 5, 7, 20]
  | 10 => [0, 5]
  | 11 => [0, 3, 5, 7, 24]
  | 12 => [0, 5]
  | 13 => [0, 3, 5, 7, 33]
  | 14 => [0, 5]
  | 15 => [0, 3, 5, 40]
  | 16 => [0, 5]
  | 17 => [4]
  | _ => []
noncomputable def CC : Tab := C
theorem CS : CC.Sound Go.Proofs.Try.prog := Tab.Sound.none
theorem body_eq (fr : AFr) (H : AHeap) : acode Go.Proofs.Try.prog C (draws Go.Proofs.Try.prog C) K code fr H = body fr H := by kernel_rfl
theorem callable : Callable Go.Proofs.Try.prog 49 := fun args w => Go.Proofs.Try.call49 args w
theorem hf : Go.Proofs.Try.prog.funcs[49]? = some Go.Proofs.Try.f49 := Go.Proofs.Try.func49
theorem hb : Go.Proofs.Try.f49.body = some code := by kernel_rfl
theorem hok : codeOk Go.Proofs.Try.f49.ntmps code = true := by kernel_rfl
theorem run_eq (a0 a1 : AV) : pureOf Go.Proofs.Try.prog CC (draws Go.Proofs.Try.prog CC) K Go.Proofs.Try.f49 code [a0, a1] = core_holds a0 a1 := by
  unfold pureOf arun
  rw [if_pos (show [a0, a1].length ≤ Go.Proofs.Try.f49.ntmps from (by decide +kernel : 2 ≤ Go.Proofs.Try.f49.ntmps))]
  unfold afin
  rw [show acode Go.Proofs.Try.prog CC (draws Go.Proofs.Try.prog CC) K code (args0 [a0, a1]) AHeap.empty = body (args0 [a0, a1]) AHeap.empty from body_eq _ _]
  kernel_rfl
theorem sound : Sound Go.Proofs.Try.prog 49 (.pure false spec) := by
  refine (sound_pure CS Mixed (draws _ _) K hf hb hok callable).less fun args r h => ?_
  unfold spec at h
  split at h
  · rw [run_eq]; exact h
  · cases h
end core_holds

/-! bauta/core.addr -/
namespace core_addr
noncomputable def code : Code := match Go.Proofs.Try.f69.body with | some c => c | none => .skip
def K : Nat → List Nat
  | 0 => [2, 3]
  | 1 => [2, 3, 6]
  | 2 => [2, 3, 6, 7]
  | 3 => [2, 3, 6, 7]
  | 4 => [4]
  | 5 => [2, 3, 21]
  | 6 => [4]
  | 7 => [4]
  | _ => []
noncomputable def CC : Tab := C
theorem CS : CC.Sound Go.Proofs.Try.prog := Tab.Sound.none
theorem body_eq (fr : AFr) (H : AHeap) : acode Go.Proofs.Try.prog C (draws Go.Proofs.Try.prog C) K code fr H = body fr H := by kernel_rfl
theorem callable : Callable Go.Proofs.Try.prog 69 := fun args w => Go.Proofs.Try.call69 args w
theorem hf : Go.Proofs.Try.prog.funcs[69]? = some Go.Proofs.Try.f69 := Go.Proofs.Try.func69
theorem hb : Go.Proofs.Try.f69.body = some code := by kernel_rfl
theorem hok : codeOk Go.Proofs.Try.f69.ntmps code = true := by kernel_rfl
theorem run_eq (a0 a1 : AV) : pureOf Go.Proofs.Try.prog CC (draws Go.Proofs.Try.prog CC) K Go.Proofs.Try.f69 code [a0, a1] = core_addr a0 a1 := by
  unfold pureOf arun
  rw [if_pos (show [a0, a1].length ≤ Go.Proofs.Try.f69.ntmps from (by decide +kernel : 2 ≤ Go.Proofs.Try.f69.ntmps))]
  unfold afin
  rw [show acode Go.Proofs.Try.prog CC (draws Go.Proofs.Try.prog CC) K code (args0 [a0, a1]) AHeap.empty = body (args0 [a0, a1]) AHeap.empty from body_eq _ _]
  kernel_rfl
theorem sound : Sound Go.Proofs.Try.prog 69 (.pure false spec) := by
  refine (sound_pure CS Mixed (draws _ _) K hf hb hok callable).less fun args r h => ?_
  unfold spec at h
  split at h
  · rw [run_eq]; exact h
  · cases h
end core_addr

/-! bauta/core.moves -/
namespace core_moves
noncomputable def code : Code := match Go.Proofs.Try.f50.body with | some c => c | none => .skip
def K : Nat → List Nat
  | 0 => [2, 3, 4, 6]
  | 1 => [2, 3, 4, 6, 17]
  | 2 => [6, 7]
  | 3 => [3, 4, 6, 8, 9]
  | 4 => [3, 4, 6, 8, 9, 38]
  | 5 => [3, 6, 9]
  | 6 => [6, 7]
  | _ => []
noncomputable def CC : Tab := C core_addr.spec mem_Mem_Store.spec mem_Mem_Load.spec
theorem CS : CC.Sound Go.Proofs.Try.prog := (((Tab.Sound.none.add core_addr.sound).add mem_Mem_Store.sound).add mem_Mem_Load.sound)
theorem body_eq (s0 : SpecP) (s1 s2 : SpecM) (fr : AFr) (H : AHeap) : acode Go.Proofs.Try.prog (C s0 s1 s2) (draws Go.Proofs.Try.prog (C s0 s1 s2)) K code fr H = body s0 s1 s2 fr H := by kernel_rfl
theorem callable : Callable Go.Proofs.Try.prog 50 := fun args w => Go.Proofs.Try.call50 args w
theorem hf : Go.Proofs.Try.prog.funcs[50]? = some Go.Proofs.Try.f50 := Go.Proofs.Try.func50
theorem hb : Go.Proofs.Try.f50.body = some code := by kernel_rfl
theorem hok : codeOk Go.Proofs.Try.f50.ntmps code = true := by kernel_rfl
theorem run_eq (a0 a1 a2 : AV) (H : AHeap) : refT Go.Proofs.Try.prog CC (draws Go.Proofs.Try.prog CC) K Go.Proofs.Try.f50 code [a0, a1, a2] H = core_moves a0 a1 a2 H := by
  unfold refT arun
  rw [if_pos (show [a0, a1, a2].length ≤ Go.Proofs.Try.f50.ntmps from (by decide +kernel : 3 ≤ Go.Proofs.Try.f50.ntmps))]
  unfold afin
  rw [show acode Go.Proofs.Try.prog CC (draws Go.Proofs.Try.prog CC) K code (args0 [a0, a1, a2]) H = body core_addr.spec mem_Mem_Store.spec mem_Mem_Load.spec (args0 [a0, a1, a2]) H from body_eq core_addr.spec mem_Mem_Store.spec mem_Mem_Load.spec _ _]
  kernel_rfl
theorem sound : Sound Go.Proofs.Try.prog 50 (.ref [true, true, false] spec) := by
  refine (sound_refT CS Mixed (draws _ _) K hf hb hok callable [true, true, false]).lessR fun args H r h => ?_
  unfold spec at h
  split at h
  · rw [run_eq]; exact h
  · cases h
end core_moves

/-! bauta/core.flags -/
namespace core_flags
noncomputable def code : Code := match Go.Proofs.Try.f64.body with | some c => c | none => .skip
def K : Nat → List Nat
  | 0 => [1, 2, 4]
  | 1 => [2, 4]
  | 2 => [4]
  | _ => []
noncomputable def CC : Tab := C
theorem CS : CC.Sound Go.Proofs.Try.prog := Tab.Sound.none
theorem body_eq (fr : AFr) (H : AHeap) : acode Go.Proofs.Try.prog C (draws Go.Proofs.Try.prog C) K code fr H = body fr H := by kernel_rfl
theorem callable : Callable Go.Proofs.Try.prog 64 := fun args w => Go.Proofs.Try.call64 args w
theorem hf : Go.Proofs.Try.prog.funcs[64]? = some Go.Proofs.Try.f64 := Go.Proofs.Try.func64
theorem hb : Go.Proofs.Try.f64.body = some code := by kernel_rfl
theorem hok : codeOk Go.Proofs.Try.f64.ntmps code = true := by kernel_rfl
theorem run_eq (a0 a1 : AV) : pureOf Go.Proofs.Try.prog CC (draws Go.Proofs.Try.prog CC) K Go.Proofs.Try.f64 code [a0, a1] = core_flags a0 a1 := by
  unfold pureOf arun
  rw [if_pos (show [a0, a1].length ≤ Go.Proofs.Try.f64.ntmps from (by decide +kernel : 2 ≤ Go.Proofs.Try.f64.ntmps))]
  unfold afin
  rw [show acode Go.Proofs.Try.prog CC (draws Go.Proofs.Try.prog CC) K code (args0 [a0, a1]) AHeap.empty = body (args0 [a0, a1]) AHeap.empty from body_eq _ _]
  kernel_rfl
theorem sound : Sound Go.Proofs.Try.prog 64 (.pure false spec) := by
  refine (sound_pure CS Mixed (draws _ _) K hf hb hok callable).less fun args r h => ?_
  unfold spec at h
  split at h
  · rw [run_eq]; exact h
  · cases h
end core_flags

/-! bauta/core.add -/
namespace core_add
noncomputable def code : Code := match Go.Proofs.Try.f71.body with | some c => c | none => .skip
def K : Nat → List Nat
  | 0 => [1, 2, 3, 4, 8]
  | 1 => [4, 8, 10, 11, 12]
  | 2 => [4, 8, 10]
  | 3 => [8, 9]
  | _ => []
noncomputable def CC : Tab := C word_Add.spec core_flags.spec
theorem CS : CC.Sound Go.Proofs.Try.prog := ((Tab.Sound.none.add word_Add.sound).add core_flags.sound)
theorem body_eq (s0 s1 : SpecP) (fr : AFr) (H : AHeap) : acode Go.Proofs.Try.prog (C s0 s1) (draws Go.Proofs.Try.prog (C s0 s1)) K code fr H = body s0 s1 fr H := by kernel_rfl
theorem callable : Callable Go.Proofs.Try.prog 71 := fun args w => Go.Proofs.Try.call71 args w
theorem hf : Go.Proofs.Try.prog.funcs[71]? = some Go.Proofs.Try.f71 := Go.Proofs.Try.func71
theorem hb : Go.Proofs.Try.f71.body = some code := by kernel_rfl
theorem hok : codeOk Go.Proofs.Try.f71.ntmps code = true := by kernel_rfl
theorem run_eq (a0 a1 a2 a3 : AV) : pureOf Go.Proofs.Try.prog CC (draws Go.Proofs.Try.prog CC) K Go.Proofs.Try.f71 code [a0, a1, a2, a3] = core_add a0 a1 a2 a3 := by
  unfold pureOf arun
  rw [if_pos (show [a0, a1, a2, a3].length ≤ Go.Proofs.Try.f71.ntmps from (by decide +kernel : 4 ≤ Go.Proofs.Try.f71.ntmps))]
  unfold afin
  rw [show acode Go.Proofs.Try.prog CC (draws Go.Proofs.Try.prog CC) K code (args0 [a0, a1, a2, a3]) AHeap.empty = body word_Add.spec core_flags.spec (args0 [a0, a1, a2, a3]) AHeap.empty from body_eq word_Add.spec core_flags.spec _ _]
  kernel_rfl
theorem sound : Sound Go.Proofs.Try.prog 71 (.pure false spec) := by
  refine (sound_pure CS Mixed (draws _ _) K hf hb hok callable).less fun args r h => ?_
  unfold spec at h
  split at h
  · rw [run_eq]; exact h
  · cases h
end core_add

/-! bauta/core.shift -/
namespace core_shift
noncomputable def code : Code := match Go.Proofs.Try.f72.body with | some c => c | none => .skip
def K : Nat → List Nat
  | 0 => [1, 2, 3, 4, 8]
  | 1 => [4, 8, 10, 11]
  | 2 => [4, 8, 10]
  | 3 => [8, 9]
  | _ => []
noncomputable def CC : Tab := C word_Shift.spec core_flags.spec
theorem CS : CC.Sound Go.Proofs.Try.prog := ((Tab.Sound.none.add word_Shift.sound).add core_flags.sound)
theorem body_eq (s0 s1 : SpecP) (fr : AFr) (H : AHeap) : acode Go.Proofs.Try.prog (C s0 s1) (draws Go.Proofs.Try.prog (C s0 s1)) K code fr H = body s0 s1 fr H := by kernel_rfl
theorem callable : Callable Go.Proofs.Try.prog 72 := fun args w => Go.Proofs.Try.call72 args w
theorem hf : Go.Proofs.Try.prog.funcs[72]? = some Go.Proofs.Try.f72 := Go.Proofs.Try.func72
theorem hb : Go.Proofs.Try.f72.body = some code := by kernel_rfl
theorem hok : codeOk Go.Proofs.Try.f72.ntmps code = true := by kernel_rfl
theorem run_eq (a0 a1 a2 a3 : AV) : pureOf Go.Proofs.Try.prog CC (draws Go.Proofs.Try.prog CC) K Go.Proofs.Try.f72 code [a0, a1, a2, a3] = core_shift a0 a1 a2 a3 := by
  unfold pureOf arun
  rw [if_pos (show [a0, a1, a2, a3].length ≤ Go.Proofs.Try.f72.ntmps from (by decide +kernel : 4 ≤ Go.Proofs.Try.f72.ntmps))]
  unfold afin
  rw [show acode Go.Proofs.Try.prog CC (draws Go.Proofs.Try.prog CC) K code (args0 [a0, a1, a2, a3]) AHeap.empty = body word_Shift.spec core_flags.spec (args0 [a0, a1, a2, a3]) AHeap.empty from body_eq word_Shift.spec core_flags.spec _ _]
  kernel_rfl
theorem sound : Sound Go.Proofs.Try.prog 72 (.pure false spec) := by
  refine (sound_pure CS Mixed (draws _ _) K hf hb hok callable).less fun args r h => ?_
  unfold spec at h
  split at h
  · rw [run_eq]; exact h
  · cases h
end core_shift

/-! bauta/core.alu -/
namespace core_alu
noncomputable def code : Code := match Go.Proofs.Try.f73.body with | some c => c | none => .skip
def K : Nat → List Nat
  | 0 => [1, 2, 3, 4, 8]
  | 1 => [1, 2, 3, 4, 8, 10]
  | 2 => [1, 2, 3, 4, 8, 10, 11]
  | 3 => [1, 2, 3, 4, 8, 10, 11, 12]
  | 4 => [1, 2, 3, 4, 8, 10, 11, 12]
  | 5 => [4, 8, 10]
  | 6 => [1, 2, 3, 4, 8, 10, 11, 18]
  | 7 => [4, 8, 10]
  | 8 => [1, 2, 3, 4, 8, 10, 11, 23]
  | 9 => [4, 8, 10]
  | 10 => [1, 2, 3, 4, 8, 10, 11, 28]
  | 11 => [4, 8, 10]
  | 12 => [1, 2, 3, 4, 8, 10, 11, 33]
  | 13 => [4, 8, 10]
  | 14 => [1, 2, 3, 4, 8, 10, 11, 37]
  | 15 => [4, 8, 10]
  | 16 => [1, 2, 3, 4, 8, 10, 11, 42]
  | 17 => [1, 2, 3, 4, 8, 10, 11, 42]
  | 18 => [1, 2, 3, 4, 8, 10, 11, 42]
  | 19 => [8, 9]
  | 20 => [2, 3, 4, 8, 10, 11, 56]
  | 21 => [8, 9]
  | 22 => [2, 3, 4, 8, 10, 11, 65]
  | 23 => [8, 9]
  | 24 => [2, 3, 4, 8, 10, 11, 75]
  | 25 => [8, 9]
  | 26 => [2, 3, 4, 8, 10, 11, 86]
  | 27 => [8, 9]
  | 28 => [2, 3, 4, 8, 10, 11, 94]
  | 29 => [8, 9]
  | 30 => [2, 3, 4, 8, 10, 103]
  | 31 => [8, 9]
  | 32 => [8, 9]
  | _ => []
noncomputable def CC : Tab := C core_shift.spec core_add.spec core_flags.spec
theorem CS : CC.Sound Go.Proofs.Try.prog := (((Tab.Sound.none.add core_shift.sound).add core_add.sound).add core_flags.sound)
theorem body_eq (s0 s1 s2 : SpecP) (fr : AFr) (H : AHeap) : acode Go.Proofs.Try.prog (C s0 s1 s2) (draws Go.Proofs.Try.prog (C s0 s1 s2)) K code fr H = body s0 s1 s2 fr H := by kernel_rfl
theorem callable : Callable Go.Proofs.Try.prog 73 := fun args w => Go.Proofs.Try.call73 args w
theorem hf : Go.Proofs.Try.prog.funcs[73]? = some Go.Proofs.Try.f73 := Go.Proofs.Try.func73
theorem hb : Go.Proofs.Try.f73.body = some code := by kernel_rfl
theorem hok : codeOk Go.Proofs.Try.f73.ntmps code = true := by kernel_rfl
theorem run_eq (a0 a1 a2 a3 : AV) : pureOf Go.Proofs.Try.prog CC (draws Go.Proofs.Try.prog CC) K Go.Proofs.Try.f73 code [a0, a1, a2, a3] = core_alu a0 a1 a2 a3 := by
  unfold pureOf arun
  rw [if_pos (show [a0, a1, a2, a3].length ≤ Go.Proofs.Try.f73.ntmps from (by decide +kernel : 4 ≤ Go.Proofs.Try.f73.ntmps))]
  unfold afin
  rw [show acode Go.Proofs.Try.prog CC (draws Go.Proofs.Try.prog CC) K code (args0 [a0, a1, a2, a3]) AHeap.empty = body core_shift.spec core_add.spec core_flags.spec (args0 [a0, a1, a2, a3]) AHeap.empty from body_eq core_shift.spec core_add.spec core_flags.spec _ _]
  kernel_rfl
theorem sound : Sound Go.Proofs.Try.prog 73 (.pure false spec) := by
  refine (sound_pure CS Mixed (draws _ _) K hf hb hok callable).less fun args r h => ?_
  unfold spec at h
  split at h
  · rw [run_eq]; exact h
  · cases h
end core_alu

/-! bauta/core.reckons -/
namespace core_reckons
noncomputable def code : Code := match Go.Proofs.Try.f51.body with | some c => c | none => .skip
def K : Nat → List Nat
  | 0 => [2, 3, 4]
  | 1 => [2, 3, 4, 6]
  | 2 => [2, 3, 4, 6, 7, 8, 9]
  | 3 => [2, 3, 4, 6, 7, 8, 9, 29]
  | 4 => [2, 3, 4, 6, 7, 8, 9, 29, 30]
  | 5 => [4, 5]
  | 6 => [2, 3, 4, 6, 7, 8, 9, 29, 36]
  | 7 => [2, 3, 4, 6, 7, 8, 9, 29, 36]
  | 8 => [4, 5]
  | 9 => [2, 3, 4, 6, 7, 8, 9, 29, 46]
  | 10 => [4, 5]
  | 11 => [2, 3, 4, 6, 7, 8, 9, 29, 54]
  | 12 => [2, 3, 4, 6, 7, 8, 9, 29, 54]
  | 13 => [2, 3, 4, 6, 7, 8, 9, 29, 54]
  | 14 => [4, 5]
  | 15 => [2, 3, 4, 6, 7, 8, 9, 29, 68]
  | 16 => [4, 5]
  | 17 => [2, 3, 4, 6, 7, 8, 9, 29, 76]
  | 18 => [4, 5]
  | 19 => [2, 3, 4, 6, 7, 8, 9, 29, 85]
  | 20 => [4, 5]
  | 21 => [2, 3, 4, 6, 7, 8, 9, 93]
  | 22 => [4, 5]
  | 23 => [4, 5]
  | _ => []
noncomputable def CC : Tab := C core_flags.spec core_add.spec core_shift.spec core_alu.spec
theorem CS : CC.Sound Go.Proofs.Try.prog := ((((Tab.Sound.none.add core_flags.sound).add core_add.sound).add core_shift.sound).add core_alu.sound)
theorem body_eq (s0 s1 s2 s3 : SpecP) (fr : AFr) (H : AHeap) : acode Go.Proofs.Try.prog (C s0 s1 s2 s3) (draws Go.Proofs.Try.prog (C s0 s1 s2 s3)) K code fr H = body s0 s1 s2 s3 fr H := by kernel_rfl
theorem callable : Callable Go.Proofs.Try.prog 51 := fun args w => Go.Proofs.Try.call51 args w
theorem hf : Go.Proofs.Try.prog.funcs[51]? = some Go.Proofs.Try.f51 := Go.Proofs.Try.func51
theorem hb : Go.Proofs.Try.f51.body = some code := by kernel_rfl
theorem hok : codeOk Go.Proofs.Try.f51.ntmps code = true := by kernel_rfl
theorem run_eq (a0 a1 : AV) : pureOf Go.Proofs.Try.prog CC (draws Go.Proofs.Try.prog CC) K Go.Proofs.Try.f51 code [a0, a1] = core_reckons a0 a1 := by
  unfold pureOf arun
  rw [if_pos (show [a0, a1].length ≤ Go.Proofs.Try.f51.ntmps from (by decide +kernel : 2 ≤ Go.Proofs.Try.f51.ntmps))]
  unfold afin
  rw [show acode Go.Proofs.Try.prog CC (draws Go.Proofs.Try.prog CC) K code (args0 [a0, a1]) AHeap.empty = body core_flags.spec core_add.spec core_shift.spec core_alu.spec (args0 [a0, a1]) AHeap.empty from body_eq core_flags.spec core_add.spec core_shift.spec core_alu.spec _ _]
  kernel_rfl
theorem sound : Sound Go.Proofs.Try.prog 51 (.pure false spec) := by
  refine (sound_pure CS Mixed (draws _ _) K hf hb hok callable).less fun args r h => ?_
  unfold spec at h
  split at h
  · rw [run_eq]; exact h
  · cases h
end core_reckons

/-! bauta/core.Step -/
namespace core_Step
noncomputable def code : Code := match Go.Proofs.Try.f20.body with | some c => c | none => .skip
def K : Nat → List Nat
  | 0 => [1, 2, 4]
  | 1 => [1, 2, 4, 16]
  | 2 => [4, 5, 6]
  | 3 => [1, 2, 4, 7, 8]
  | 4 => [1, 2, 4, 7, 8, 26]
  | 5 => [4, 5, 6]
  | 6 => [1, 2, 4, 8, 9]
  | 7 => [1, 2, 4, 8, 9, 35]
  | 8 => [4, 5, 6]
  | 9 => [1, 2, 4, 9, 10]
  | 10 => [1, 2, 4, 9, 10, 11]
  | 11 => [1, 2, 4, 9, 10, 11, 43]
  | 17 => [1, 2, 4, 9, 10, 11, 43, 60]
  | 18 => [4, 5, 6]
  | 19 => [1, 2, 4, 9, 10, 11, 43, 63]
  | 20 => [1, 2, 4, 9, 10, 11, 43, 65]
  | 21 => [2, 4, 9, 10, 11, 70]
  | 22 => [4, 10, 11]
  | 23 => [1, 2, 4, 9, 10, 11, 43, 79]
  | 24 => [4, 10, 11]
  | 25 => [1, 2, 4, 9, 10, 11, 43, 89]
  | 26 => [1, 2, 4, 9, 10, 11, 43, 89]
  | 27 => [1, 2, 4, 9, 10, 11, 43, 89]
  | 28 => [1, 2, 4, 9, 10, 11, 43, 89]
  | 29 => [1, 2, 4, 9, 10, 11, 89]
  | 30 => [2, 4, 8, 10, 11]
  | 31 => [2, 4, 8, 10, 11, 103]
  | 32 => [4, 5, 6]
  | 12 => [2, 4, 9, 10, 11]
  | 13 => [4, 9, 10, 11, 12]
  | 14 => [4, 10, 11, 12, 13, 14]
  | 15 => [4, 10, 11, 12, 13, 55]
  | 16 => [4, 10, 11]
  | 33 => [4, 10]
  | 34 => [4, 5, 6]
  | _ => []
noncomputable def CC : Tab := C mem_Mem_Fetch.spec thumb_Take.spec core_holds.spec core_moves.spec core_reckons.spec thumb_Writes.spec
theorem CS : CC.Sound Go.Proofs.Try.prog := ((((((Tab.Sound.none.add mem_Mem_Fetch.sound).add thumb_Take.sound).add core_holds.sound).add core_moves.sound).add core_reckons.sound).add thumb_Writes.sound)
theorem body_eq (s0 : SpecM) (s1 s2 : SpecP) (s3 : SpecM) (s4 s5 : SpecP) (fr : AFr) (H : AHeap) : acode Go.Proofs.Try.prog (C s0 s1 s2 s3 s4 s5) (draws Go.Proofs.Try.prog (C s0 s1 s2 s3 s4 s5)) K code fr H = body s0 s1 s2 s3 s4 s5 fr H := by kernel_rfl
theorem callable : Callable Go.Proofs.Try.prog 20 := fun args w => Go.Proofs.Try.call20 args w
theorem hf : Go.Proofs.Try.prog.funcs[20]? = some Go.Proofs.Try.f20 := Go.Proofs.Try.func20
theorem hb : Go.Proofs.Try.f20.body = some code := by kernel_rfl
theorem hok : codeOk Go.Proofs.Try.f20.ntmps code = true := by kernel_rfl
theorem run_eq (a0 a1 : AV) (H : AHeap) : refT Go.Proofs.Try.prog CC (draws Go.Proofs.Try.prog CC) K Go.Proofs.Try.f20 code [a0, a1] H = core_Step a0 a1 H := by
  unfold refT arun
  rw [if_pos (show [a0, a1].length ≤ Go.Proofs.Try.f20.ntmps from (by decide +kernel : 2 ≤ Go.Proofs.Try.f20.ntmps))]
  unfold afin
  rw [show acode Go.Proofs.Try.prog CC (draws Go.Proofs.Try.prog CC) K code (args0 [a0, a1]) H = body mem_Mem_Fetch.spec thumb_Take.spec core_holds.spec core_moves.spec core_reckons.spec thumb_Writes.spec (args0 [a0, a1]) H from body_eq mem_Mem_Fetch.spec thumb_Take.spec core_holds.spec core_moves.spec core_reckons.spec thumb_Writes.spec _ _]
  kernel_rfl
theorem sound : Sound Go.Proofs.Try.prog 20 (.ref [true, false] spec) := by
  refine (sound_refT CS Mixed (draws _ _) K hf hb hok callable [true, false]).lessR fun args H r h => ?_
  unfold spec at h
  split at h
  · rw [run_eq]; exact h
  · cases h
end core_Step

/-! bauta/core.Holds -/
namespace core_Holds
noncomputable def code : Code := match Go.Proofs.Try.f30.body with | some c => c | none => .skip
def K : Nat → List Nat
  | 0 => [0, 3]
  | 1 => [4]
  | _ => []
noncomputable def CC : Tab := C core_holds.spec
theorem CS : CC.Sound Go.Proofs.Try.prog := (Tab.Sound.none.add core_holds.sound)
theorem body_eq (s0 : SpecP) (fr : AFr) (H : AHeap) : acode Go.Proofs.Try.prog (C s0) (draws Go.Proofs.Try.prog (C s0)) K code fr H = body s0 fr H := by kernel_rfl
theorem callable : Callable Go.Proofs.Try.prog 30 := fun args w => Go.Proofs.Try.call30 args w
theorem hf : Go.Proofs.Try.prog.funcs[30]? = some Go.Proofs.Try.f30 := Go.Proofs.Try.func30
theorem hb : Go.Proofs.Try.f30.body = some code := by kernel_rfl
theorem hok : codeOk Go.Proofs.Try.f30.ntmps code = true := by kernel_rfl
theorem run_eq (a0 a1 : AV) : pureOf Go.Proofs.Try.prog CC (draws Go.Proofs.Try.prog CC) K Go.Proofs.Try.f30 code [a0, a1] = core_Holds a0 a1 := by
  unfold pureOf arun
  rw [if_pos (show [a0, a1].length ≤ Go.Proofs.Try.f30.ntmps from (by decide +kernel : 2 ≤ Go.Proofs.Try.f30.ntmps))]
  unfold afin
  rw [show acode Go.Proofs.Try.prog CC (draws Go.Proofs.Try.prog CC) K code (args0 [a0, a1]) AHeap.empty = body core_holds.spec (args0 [a0, a1]) AHeap.empty from body_eq core_holds.spec _ _]
  kernel_rfl
theorem sound : Sound Go.Proofs.Try.prog 30 (.pure false spec) := by
  refine (sound_pure CS Mixed (draws _ _) K hf hb hok callable).less fun args r h => ?_
  unfold spec at h
  split at h
  · rw [run_eq]; exact h
  · cases h
end core_Holds

/-! bauta/core.Flags -/
namespace core_Flags
noncomputable def code : Code := match Go.Proofs.Try.f32.body with | some c => c | none => .skip
def K : Nat → List Nat
  | 0 => [1, 2, 4]
  | 1 => [4]
  | _ => []
noncomputable def CC : Tab := C core_flags.spec
theorem CS : CC.Sound Go.Proofs.Try.prog := (Tab.Sound.none.add core_flags.sound)
theorem body_eq (s0 : SpecP) (fr : AFr) (H : AHeap) : acode Go.Proofs.Try.prog (C s0) (draws Go.Proofs.Try.prog (C s0)) K code fr H = body s0 fr H := by kernel_rfl
theorem callable : Callable Go.Proofs.Try.prog 32 := fun args w => Go.Proofs.Try.call32 args w
theorem hf : Go.Proofs.Try.prog.funcs[32]? = some Go.Proofs.Try.f32 := Go.Proofs.Try.func32
theorem hb : Go.Proofs.Try.f32.body = some code := by kernel_rfl
theorem hok : codeOk Go.Proofs.Try.f32.ntmps code = true := by kernel_rfl
theorem run_eq (a0 a1 : AV) : pureOf Go.Proofs.Try.prog CC (draws Go.Proofs.Try.prog CC) K Go.Proofs.Try.f32 code [a0, a1] = core_Flags a0 a1 := by
  unfold pureOf arun
  rw [if_pos (show [a0, a1].length ≤ Go.Proofs.Try.f32.ntmps from (by decide +kernel : 2 ≤ Go.Proofs.Try.f32.ntmps))]
  unfold afin
  rw [show acode Go.Proofs.Try.prog CC (draws Go.Proofs.Try.prog CC) K code (args0 [a0, a1]) AHeap.empty = body core_flags.spec (args0 [a0, a1]) AHeap.empty from body_eq core_flags.spec _ _]
  kernel_rfl
theorem sound : Sound Go.Proofs.Try.prog 32 (.pure false spec) := by
  refine (sound_pure CS Mixed (draws _ _) K hf hb hok callable).less fun args r h => ?_
  unfold spec at h
  split at h
  · rw [run_eq]; exact h
  · cases h
end core_Flags

end Go.Abs
