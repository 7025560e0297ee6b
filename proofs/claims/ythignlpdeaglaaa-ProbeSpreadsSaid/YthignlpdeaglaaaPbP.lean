/-
  That the program's functions are these. Printed by gen.py.
-/
import Derived.Test.YthignlpdeaglaaaPbF
import Derived.Test.YthignlpdeaglaaaIxP
set_option linter.unusedSimpArgs false
set_option linter.unusedVariables false
namespace Go.Abs
namespace probe_asked_looks_1
noncomputable def code : Code := match Go.Proofs.Try.f64.body with | some c => c | none => .skip
def K : Nat → List Nat
  | 0 => [0, 1]
  | 1 => [3]
  | _ => []
noncomputable def CC : Tab := C
theorem CS : CC.Sound Go.Proofs.Try.prog := Tab.Sound.none
theorem body_eq (fr : AFr) (H : AHeap) : acode Go.Proofs.Try.prog C (draws Go.Proofs.Try.prog C) K code fr H = body fr H := by kernel_rfl
theorem callable : Callable Go.Proofs.Try.prog 64 := fun args w => Go.Proofs.Try.call64 args w
theorem hf : Go.Proofs.Try.prog.funcs[64]? = some Go.Proofs.Try.f64 := Go.Proofs.Try.func64
theorem hb : Go.Proofs.Try.f64.body = some code := by kernel_rfl
theorem hok : codeOk Go.Proofs.Try.f64.ntmps code = true := by kernel_rfl
theorem run_eq (a0 a1 : AV) (H : AHeap) : refT Go.Proofs.Try.prog CC (draws Go.Proofs.Try.prog CC) K Go.Proofs.Try.f64 code [a0, a1] H = probe_asked_looks_1 a0 a1 H := by
  unfold refT arun
  rw [if_pos (show [a0, a1].length ≤ Go.Proofs.Try.f64.ntmps from (by decide +kernel : 2 ≤ Go.Proofs.Try.f64.ntmps))]
  unfold afin
  rw [show acode Go.Proofs.Try.prog CC (draws Go.Proofs.Try.prog CC) K code (args0 [a0, a1]) H = body (args0 [a0, a1]) H from body_eq _ _]
  kernel_rfl
theorem sound : Sound Go.Proofs.Try.prog 64 (.ref [false] spec) := by
  refine (sound_refT CS Mixed (draws _ _) K hf hb hok callable [false]).lessR fun args H r h => ?_
  unfold spec at h
  split at h
  · rw [run_eq]; exact h
  · cases h
end probe_asked_looks_1
namespace slices_IndexFunc_int
noncomputable def code : Code := match Go.Proofs.Try.f74.body with | some c => c | none => .skip
def K : Nat → List Nat
  | 0 => [0, 1]
  | 1 => [0, 1, 7, 8]
  | 2 => [0, 1, 7, 8, 9]
  | 3 => [0, 1, 5, 7, 8]
  | 4 => [0, 1, 5, 7, 8, 16]
  | 5 => [4]
  | 6 => [0, 1, 7, 8]
  | 7 => [4]
  | _ => []
noncomputable def CC : Tab := C probe_asked_looks_1.spec
theorem CS : CC.Sound Go.Proofs.Try.prog := (Tab.Sound.none.add probe_asked_looks_1.sound)
theorem body_eq (s0 : SpecM) (fr : AFr) (H : AHeap) : acode Go.Proofs.Try.prog (C s0) (draws Go.Proofs.Try.prog (C s0)) K code fr H = body s0 fr H := by kernel_rfl
theorem callable : Callable Go.Proofs.Try.prog 74 := fun args w => Go.Proofs.Try.call74 args w
theorem hf : Go.Proofs.Try.prog.funcs[74]? = some Go.Proofs.Try.f74 := Go.Proofs.Try.func74
theorem hb : Go.Proofs.Try.f74.body = some code := by kernel_rfl
theorem hok : codeOk Go.Proofs.Try.f74.ntmps code = true := by kernel_rfl
theorem run_eq (a0 a1 : AV) (H : AHeap) : refT Go.Proofs.Try.prog CC (draws Go.Proofs.Try.prog CC) K Go.Proofs.Try.f74 code [a0, a1] H = slices_IndexFunc_int a0 a1 H := by
  unfold refT arun
  rw [if_pos (show [a0, a1].length ≤ Go.Proofs.Try.f74.ntmps from (by decide +kernel : 2 ≤ Go.Proofs.Try.f74.ntmps))]
  unfold afin
  rw [show acode Go.Proofs.Try.prog CC (draws Go.Proofs.Try.prog CC) K code (args0 [a0, a1]) H = body probe_asked_looks_1.spec (args0 [a0, a1]) H from body_eq probe_asked_looks_1.spec _ _]
  kernel_rfl
theorem sound : Sound Go.Proofs.Try.prog 74 (.ref [true, false] spec) := by
  refine (sound_refT CS Mixed (draws _ _) K hf hb hok callable [true, false]).lessR fun args H r h => ?_
  unfold spec at h
  split at h
  · rw [run_eq]; exact h
  · cases h
end slices_IndexFunc_int
namespace slices_ContainsFunc_int
noncomputable def code : Code := match Go.Proofs.Try.f63.body with | some c => c | none => .skip
def K : Nat → List Nat
  | 0 => [0, 1]
  | 1 => [4]
  | _ => []
noncomputable def CC : Tab := C slices_IndexFunc_int.spec
theorem CS : CC.Sound Go.Proofs.Try.prog := (Tab.Sound.none.add slices_IndexFunc_int.sound)
theorem body_eq (s0 : SpecM) (fr : AFr) (H : AHeap) : acode Go.Proofs.Try.prog (C s0) (draws Go.Proofs.Try.prog (C s0)) K code fr H = body s0 fr H := by kernel_rfl
theorem callable : Callable Go.Proofs.Try.prog 63 := fun args w => Go.Proofs.Try.call63 args w
theorem hf : Go.Proofs.Try.prog.funcs[63]? = some Go.Proofs.Try.f63 := Go.Proofs.Try.func63
theorem hb : Go.Proofs.Try.f63.body = some code := by kernel_rfl
theorem hok : codeOk Go.Proofs.Try.f63.ntmps code = true := by kernel_rfl
theorem run_eq (a0 a1 : AV) (H : AHeap) : refT Go.Proofs.Try.prog CC (draws Go.Proofs.Try.prog CC) K Go.Proofs.Try.f63 code [a0, a1] H = slices_ContainsFunc_int a0 a1 H := by
  unfold refT arun
  rw [if_pos (show [a0, a1].length ≤ Go.Proofs.Try.f63.ntmps from (by decide +kernel : 2 ≤ Go.Proofs.Try.f63.ntmps))]
  unfold afin
  rw [show acode Go.Proofs.Try.prog CC (draws Go.Proofs.Try.prog CC) K code (args0 [a0, a1]) H = body slices_IndexFunc_int.spec (args0 [a0, a1]) H from body_eq slices_IndexFunc_int.spec _ _]
  kernel_rfl
theorem sound : Sound Go.Proofs.Try.prog 63 (.ref [true, false] spec) := by
  refine (sound_refT CS Mixed (draws _ _) K hf hb hok callable [true, false]).lessR fun args H r h => ?_
  unfold spec at h
  split at h
  · rw [run_eq]; exact h
  · cases h
end slices_ContainsFunc_int
namespace probe_asked_looks
noncomputable def code : Code := match Go.Proofs.Try.f44.body with | some c => c | none => .skip
def K : Nat → List Nat
  | 0 => [1, 2]
  | 1 => [1, 2, 5]
  | 2 => [1, 2, 5]
  | 3 => [1, 2, 5]
  | 4 => [1, 2, 5]
  | 5 => [1, 2, 5]
  | 6 => [1, 2, 5]
  | 7 => [4]
  | 8 => [1, 2, 32]
  | 9 => [4]
  | 10 => [1, 36]
  | 11 => [36]
  | 12 => [4]
  | 13 => [4]
  | _ => []
noncomputable def CC : Tab := C isw_Can.spec slices_ContainsFunc_int.spec isw_Randoms.spec
theorem CS : CC.Sound Go.Proofs.Try.prog := (((Tab.Sound.none.add isw_Can.sound).add slices_ContainsFunc_int.sound).add isw_Randoms.sound)
theorem body_eq (s0 : SpecP) (s1 : SpecM) (s2 : SpecP) (fr : AFr) (H : AHeap) : acode Go.Proofs.Try.prog (C s0 s1 s2) (draws Go.Proofs.Try.prog (C s0 s1 s2)) K code fr H = body s0 s1 s2 fr H := by kernel_rfl
theorem callable : Callable Go.Proofs.Try.prog 44 := fun args w => Go.Proofs.Try.call44 args w
theorem hf : Go.Proofs.Try.prog.funcs[44]? = some Go.Proofs.Try.f44 := Go.Proofs.Try.func44
theorem hb : Go.Proofs.Try.f44.body = some code := by kernel_rfl
theorem hok : codeOk Go.Proofs.Try.f44.ntmps code = true := by kernel_rfl
theorem run_eq (a0 a1 : AV) : pureOf Go.Proofs.Try.prog CC (draws Go.Proofs.Try.prog CC) K Go.Proofs.Try.f44 code [a0, a1] = probe_asked_looks a0 a1 := by
  unfold pureOf arun
  rw [if_pos (show [a0, a1].length ≤ Go.Proofs.Try.f44.ntmps from (by decide +kernel : 2 ≤ Go.Proofs.Try.f44.ntmps))]
  unfold afin
  rw [show acode Go.Proofs.Try.prog CC (draws Go.Proofs.Try.prog CC) K code (args0 [a0, a1]) AHeap.empty = body isw_Can.spec slices_ContainsFunc_int.spec isw_Randoms.spec (args0 [a0, a1]) AHeap.empty from body_eq isw_Can.spec slices_ContainsFunc_int.spec isw_Randoms.spec _ _]
  kernel_rfl
theorem sound : Sound Go.Proofs.Try.prog 44 (.pure false spec) := by
  refine (sound_pure CS Mixed (draws _ _) K hf hb hok callable).less fun args r h => ?_
  unfold spec at h
  split at h
  · rw [run_eq]; exact h
  · cases h
end probe_asked_looks
namespace probe_bits
noncomputable def code : Code := match Go.Proofs.Try.f66.body with | some c => c | none => .skip
def K : Nat → List Nat
  | 0 => [0, 1]
  | 1 => [0, 1, 5]
  | 2 => [0, 5, 7, 8]
  | 3 => [0, 5, 7, 8, 9]
  | 4 => [0, 5, 6, 7, 8]
  | 5 => [0, 5, 7, 8]
  | 6 => [0, 5, 7, 8]
  | 7 => [4]
  | _ => []
noncomputable def CC : Tab := C
theorem CS : CC.Sound Go.Proofs.Try.prog := Tab.Sound.none
theorem body_eq (fr : AFr) (H : AHeap) : acode Go.Proofs.Try.prog C (draws Go.Proofs.Try.prog C) K code fr H = body fr H := by kernel_rfl
theorem callable : Callable Go.Proofs.Try.prog 66 := fun args w => Go.Proofs.Try.call66 args w
theorem hf : Go.Proofs.Try.prog.funcs[66]? = some Go.Proofs.Try.f66 := Go.Proofs.Try.func66
theorem hb : Go.Proofs.Try.f66.body = some code := by kernel_rfl
theorem hok : codeOk Go.Proofs.Try.f66.ntmps code = true := by kernel_rfl
theorem run_eq (a0 a1 : AV) : pureOf Go.Proofs.Try.prog CC (draws Go.Proofs.Try.prog CC) K Go.Proofs.Try.f66 code [a0, a1] = probe_bits a0 a1 := by
  unfold pureOf arun
  rw [if_pos (show [a0, a1].length ≤ Go.Proofs.Try.f66.ntmps from (by decide +kernel : 2 ≤ Go.Proofs.Try.f66.ntmps))]
  unfold afin
  rw [show acode Go.Proofs.Try.prog CC (draws Go.Proofs.Try.prog CC) K code (args0 [a0, a1]) AHeap.empty = body (args0 [a0, a1]) AHeap.empty from body_eq _ _]
  kernel_rfl
theorem sound : Sound Go.Proofs.Try.prog 66 (.pure false spec) := by
  refine (sound_pure CS Mixed (draws _ _) K hf hb hok callable).less fun args r h => ?_
  unfold spec at h
  split at h
  · rw [run_eq]; exact h
  · cases h
end probe_bits
namespace share_join
noncomputable def code : Code := match Go.Proofs.Try.f75.body with | some c => c | none => .skip
def K : Nat → List Nat
  | 0 => [0]
  | 1 => [0, 3]
  | 2 => [3, 6, 7, 8]
  | 3 => [3, 6, 7, 8, 9]
  | 4 => [3, 5, 6, 7, 8]
  | 5 => [3, 6, 7, 8]
  | 6 => [3, 6, 7, 8]
  | 7 => [2]
  | _ => []
noncomputable def CC : Tab := C
theorem CS : CC.Sound Go.Proofs.Try.prog := Tab.Sound.none
theorem body_eq (fr : AFr) (H : AHeap) : acode Go.Proofs.Try.prog C (draws Go.Proofs.Try.prog C) K code fr H = body fr H := by kernel_rfl
theorem callable : Callable Go.Proofs.Try.prog 75 := fun args w => Go.Proofs.Try.call75 args w
theorem hf : Go.Proofs.Try.prog.funcs[75]? = some Go.Proofs.Try.f75 := Go.Proofs.Try.func75
theorem hb : Go.Proofs.Try.f75.body = some code := by kernel_rfl
theorem hok : codeOk Go.Proofs.Try.f75.ntmps code = true := by kernel_rfl
theorem run_eq (a0 : AV) : pureOf Go.Proofs.Try.prog CC (draws Go.Proofs.Try.prog CC) K Go.Proofs.Try.f75 code [a0] = share_join a0 := by
  unfold pureOf arun
  rw [if_pos (show [a0].length ≤ Go.Proofs.Try.f75.ntmps from (by decide +kernel : 1 ≤ Go.Proofs.Try.f75.ntmps))]
  unfold afin
  rw [show acode Go.Proofs.Try.prog CC (draws Go.Proofs.Try.prog CC) K code (args0 [a0]) AHeap.empty = body (args0 [a0]) AHeap.empty from body_eq _ _]
  kernel_rfl
theorem sound : Sound Go.Proofs.Try.prog 75 (.pure false spec) := by
  refine (sound_pure CS Mixed (draws _ _) K hf hb hok callable).less fun args r h => ?_
  unfold spec at h
  split at h
  · rw [run_eq]; exact h
  · cases h
end share_join
namespace share_Split
noncomputable def code : Code := match Go.Proofs.Try.f67.body with | some c => c | none => .skip
def K : Nat → List Nat
  | 0 => [0, 1]
  | 1 => [4]
  | _ => []
noncomputable def CC : Tab := C share_join.spec
theorem CS : CC.Sound Go.Proofs.Try.prog := (Tab.Sound.none.add share_join.sound)
theorem body_eq (s0 : SpecP) (fr : AFr) (H : AHeap) : acode Go.Proofs.Try.prog (C s0) (draws Go.Proofs.Try.prog (C s0)) K code fr H = body s0 fr H := by kernel_rfl
theorem callable : Callable Go.Proofs.Try.prog 67 := fun args w => Go.Proofs.Try.call67 args w
theorem hf : Go.Proofs.Try.prog.funcs[67]? = some Go.Proofs.Try.f67 := Go.Proofs.Try.func67
theorem hb : Go.Proofs.Try.f67.body = some code := by kernel_rfl
theorem hok : codeOk Go.Proofs.Try.f67.ntmps code = true := by kernel_rfl
theorem run_eq (a0 a1 : AV) : pureOf Go.Proofs.Try.prog CC (draws Go.Proofs.Try.prog CC) K Go.Proofs.Try.f67 code [a0, a1] = share_Split a0 a1 := by
  unfold pureOf arun
  rw [if_pos (show [a0, a1].length ≤ Go.Proofs.Try.f67.ntmps from (by decide +kernel : 2 ≤ Go.Proofs.Try.f67.ntmps))]
  unfold afin
  rw [show acode Go.Proofs.Try.prog CC (draws Go.Proofs.Try.prog CC) K code (args0 [a0, a1]) AHeap.empty = body share_join.spec (args0 [a0, a1]) AHeap.empty from body_eq share_join.spec _ _]
  kernel_rfl
theorem sound : Sound Go.Proofs.Try.prog 67 (.pure false spec) := by
  refine (sound_pure CS Mixed (draws _ _) K hf hb hok callable).less fun args r h => ?_
  unfold spec at h
  split at h
  · rw [run_eq]; exact h
  · cases h
end share_Split
namespace probe_asked_spread
noncomputable def code : Code := match Go.Proofs.Try.f46.body with | some c => c | none => .skip
def K : Nat → List Nat
  | 0 => [1, 2, 3, 4]
  | 1 => [1, 2, 3, 4, 9]
  | 2 => [1, 2, 3, 4, 9, 10, 11]
  | 3 => [1, 2, 3, 4, 9, 10, 11, 37, 38]
  | 4 => [1, 2, 3, 4, 9, 10, 11, 37, 38, 39]
  | 5 => [1, 2, 3, 4, 9, 10, 11, 12, 37, 38]
  | 6 => [1, 2, 3, 4, 9, 10, 11, 12, 13, 37, 38]
  | 7 => [1, 2, 3, 4, 9, 10, 11, 12, 13, 14, 37, 38]
  | 8 => [1, 2, 3, 4, 9, 10, 11, 12, 13, 14, 37, 38, 45, 46]
  | 9 => [1, 2, 3, 4, 9, 10, 11, 12, 13, 14, 37, 38, 45, 46, 47]
  | 10 => [1, 2, 3, 4, 9, 10, 11, 12, 13, 14, 15, 37, 38, 45, 46]
  | 11 => [1, 2, 3, 4, 9, 10, 11, 12, 13, 14, 37, 38, 45, 46]
  | 12 => [1, 2, 3, 4, 9, 10, 11, 12, 13, 14, 37, 38, 45, 46]
  | 13 => [1, 2, 3, 4, 9, 10, 11, 12, 14, 16, 37, 38]
  | 14 => [1, 2, 3, 4, 9, 10, 11, 12, 14, 16, 37, 38, 74]
  | 16 => [1, 2, 3, 4, 9, 10, 11, 12, 14, 16, 37, 38]
  | 15 => [1, 2, 3, 4, 9, 10, 11, 12, 14, 16, 37, 38]
  | 17 => [1, 2, 3, 4, 9, 10, 11, 17, 37, 38]
  | 18 => [1, 2, 3, 4, 9, 10, 11, 17, 19, 37, 38]
  | 19 => [1, 2, 3, 4, 9, 10, 11, 17, 19, 37, 38, 97, 98, 99]
  | 20 => [1, 2, 3, 4, 9, 10, 11, 17, 19, 37, 38, 97, 98, 99, 100]
  | 21 => [1, 2, 3, 4, 9, 10, 11, 17, 19, 21, 37, 38, 97, 98, 99]
  | 22 => [1, 2, 3, 4, 9, 10, 11, 17, 19, 37, 38, 97, 98, 99]
  | 23 => [1, 2, 3, 4, 9, 10, 11, 17, 19, 37, 38, 97, 98, 99]
  | 24 => [1, 2, 3, 4, 9, 10, 11, 37, 38]
  | 25 => [1, 2, 3, 4, 9, 10, 11, 37, 38]
  | 26 => [8]
  | _ => []
noncomputable def CC : Tab := C isw_Randoms.spec probe_bits.spec share_Split.spec isw_Exec.spec
theorem CS : CC.Sound Go.Proofs.Try.prog := ((((Tab.Sound.none.add isw_Randoms.sound).add probe_bits.sound).add share_Split.sound).add isw_Exec.sound)
theorem body_eq (s0 s1 s2 s3 : SpecP) (fr : AFr) (H : AHeap) : acode Go.Proofs.Try.prog (C s0 s1 s2 s3) (draws Go.Proofs.Try.prog (C s0 s1 s2 s3)) K code fr H = body s0 s1 s2 s3 fr H := by kernel_rfl
theorem callable : Callable Go.Proofs.Try.prog 46 := fun args w => Go.Proofs.Try.call46 args w
theorem hf : Go.Proofs.Try.prog.funcs[46]? = some Go.Proofs.Try.f46 := Go.Proofs.Try.func46
theorem hb : Go.Proofs.Try.f46.body = some code := by kernel_rfl
theorem hok : codeOk Go.Proofs.Try.f46.ntmps code = true := by kernel_rfl
theorem run_eq (a0 a1 a2 a3 : AV) : pureOf Go.Proofs.Try.prog CC (draws Go.Proofs.Try.prog CC) K Go.Proofs.Try.f46 code [a0, a1, a2, a3] = probe_asked_spread a0 a1 a2 a3 := by
  unfold pureOf arun
  rw [if_pos (show [a0, a1, a2, a3].length ≤ Go.Proofs.Try.f46.ntmps from (by decide +kernel : 4 ≤ Go.Proofs.Try.f46.ntmps))]
  unfold afin
  rw [show acode Go.Proofs.Try.prog CC (draws Go.Proofs.Try.prog CC) K code (args0 [a0, a1, a2, a3]) AHeap.empty = body isw_Randoms.spec probe_bits.spec share_Split.spec isw_Exec.spec (args0 [a0, a1, a2, a3]) AHeap.empty from body_eq isw_Randoms.spec probe_bits.spec share_Split.spec isw_Exec.spec _ _]
  kernel_rfl
theorem sound : Sound Go.Proofs.Try.prog 46 (.pure false spec) := by
  refine (sound_pure CS Mixed (draws _ _) K hf hb hok callable).less fun args r h => ?_
  unfold spec at h
  split at h
  · rw [run_eq]; exact h
  · cases h
end probe_asked_spread
namespace slices_Equal_int
noncomputable def code : Code := match Go.Proofs.Try.f65.body with | some c => c | none => .skip
def K : Nat → List Nat
  | 0 => [0, 1]
  | 1 => [0, 1, 10]
  | 2 => [4]
  | 3 => [0, 1, 12, 13]
  | 4 => [0, 1, 12, 13, 14]
  | 5 => [0, 1, 5, 12, 13]
  | 6 => [0, 1, 12, 13, 24]
  | 7 => [4]
  | 8 => [0, 1, 12, 13]
  | 9 => [4]
  | _ => []
noncomputable def CC : Tab := C
theorem CS : CC.Sound Go.Proofs.Try.prog := Tab.Sound.none
theorem body_eq (fr : AFr) (H : AHeap) : acode Go.Proofs.Try.prog C (draws Go.Proofs.Try.prog C) K code fr H = body fr H := by kernel_rfl
theorem callable : Callable Go.Proofs.Try.prog 65 := fun args w => Go.Proofs.Try.call65 args w
theorem hf : Go.Proofs.Try.prog.funcs[65]? = some Go.Proofs.Try.f65 := Go.Proofs.Try.func65
theorem hb : Go.Proofs.Try.f65.body = some code := by kernel_rfl
theorem hok : codeOk Go.Proofs.Try.f65.ntmps code = true := by kernel_rfl
theorem run_eq (a0 a1 : AV) : pureOf Go.Proofs.Try.prog CC (draws Go.Proofs.Try.prog CC) K Go.Proofs.Try.f65 code [a0, a1] = slices_Equal_int a0 a1 := by
  unfold pureOf arun
  rw [if_pos (show [a0, a1].length ≤ Go.Proofs.Try.f65.ntmps from (by decide +kernel : 2 ≤ Go.Proofs.Try.f65.ntmps))]
  unfold afin
  rw [show acode Go.Proofs.Try.prog CC (draws Go.Proofs.Try.prog CC) K code (args0 [a0, a1]) AHeap.empty = body (args0 [a0, a1]) AHeap.empty from body_eq _ _]
  kernel_rfl
theorem sound : Sound Go.Proofs.Try.prog 65 (.pure false spec) := by
  refine (sound_pure CS Mixed (draws _ _) K hf hb hok callable).less fun args r h => ?_
  unfold spec at h
  split at h
  · rw [run_eq]; exact h
  · cases h
end slices_Equal_int
namespace probe_asked_safe
noncomputable def code : Code := match Go.Proofs.Try.f45.body with | some c => c | none => .skip
def K : Nat → List Nat
  | 0 => [1, 2, 3]
  | 1 => [1, 2, 3, 7]
  | 2 => [1, 2, 3, 7, 8]
  | 3 => [1, 2, 3, 7, 8, 17]
  | 5 => [1, 2, 3, 7, 8, 27]
  | 6 => [6]
  | 4 => [1, 2, 3, 7, 8]
  | 7 => [6]
  | _ => []
noncomputable def CC : Tab := C probe_asked_spread.spec slices_Equal_int.spec
theorem CS : CC.Sound Go.Proofs.Try.prog := ((Tab.Sound.none.add probe_asked_spread.sound).add slices_Equal_int.sound)
theorem body_eq (s0 s1 : SpecP) (fr : AFr) (H : AHeap) : acode Go.Proofs.Try.prog (C s0 s1) (draws Go.Proofs.Try.prog (C s0 s1)) K code fr H = body s0 s1 fr H := by kernel_rfl
theorem callable : Callable Go.Proofs.Try.prog 45 := fun args w => Go.Proofs.Try.call45 args w
theorem hf : Go.Proofs.Try.prog.funcs[45]? = some Go.Proofs.Try.f45 := Go.Proofs.Try.func45
theorem hb : Go.Proofs.Try.f45.body = some code := by kernel_rfl
theorem hok : codeOk Go.Proofs.Try.f45.ntmps code = true := by kernel_rfl
theorem run_eq (a0 a1 a2 : AV) : pureOf Go.Proofs.Try.prog CC (draws Go.Proofs.Try.prog CC) K Go.Proofs.Try.f45 code [a0, a1, a2] = probe_asked_safe a0 a1 a2 := by
  unfold pureOf arun
  rw [if_pos (show [a0, a1, a2].length ≤ Go.Proofs.Try.f45.ntmps from (by decide +kernel : 3 ≤ Go.Proofs.Try.f45.ntmps))]
  unfold afin
  rw [show acode Go.Proofs.Try.prog CC (draws Go.Proofs.Try.prog CC) K code (args0 [a0, a1, a2]) AHeap.empty = body probe_asked_spread.spec slices_Equal_int.spec (args0 [a0, a1, a2]) AHeap.empty from body_eq probe_asked_spread.spec slices_Equal_int.spec _ _]
  kernel_rfl
theorem sound : Sound Go.Proofs.Try.prog 45 (.pure false spec) := by
  refine (sound_pure CS Mixed (draws _ _) K hf hb hok callable).less fun args r h => ?_
  unfold spec at h
  split at h
  · rw [run_eq]; exact h
  · cases h
end probe_asked_safe
namespace probe_Safe
noncomputable def code : Code := match Go.Proofs.Try.f16.body with | some c => c | none => .skip
def K : Nat → List Nat
  | 0 => [1, 2, 3, 4, 5]
  | 1 => [3, 4, 12]
  | 2 => [3, 4, 12, 13]
  | 3 => [3, 4, 12, 13, 22]
  | 4 => [10, 11]
  | 5 => [10, 11]
  | _ => []
noncomputable def CC : Tab := C probe_asked_looks.spec probe_asked_safe.spec
theorem CS : CC.Sound Go.Proofs.Try.prog := ((Tab.Sound.none.add probe_asked_looks.sound).add probe_asked_safe.sound)
theorem body_eq (s0 s1 : SpecP) (fr : AFr) (H : AHeap) : acode Go.Proofs.Try.prog (C s0 s1) (draws Go.Proofs.Try.prog (C s0 s1)) K code fr H = body s0 s1 fr H := by kernel_rfl
theorem callable : Callable Go.Proofs.Try.prog 16 := fun args w => Go.Proofs.Try.call16 args w
theorem hf : Go.Proofs.Try.prog.funcs[16]? = some Go.Proofs.Try.f16 := Go.Proofs.Try.func16
theorem hb : Go.Proofs.Try.f16.body = some code := by kernel_rfl
theorem hok : codeOk Go.Proofs.Try.f16.ntmps code = true := by kernel_rfl
theorem run_eq (a0 a1 a2 a3 a4 : AV) : pureOf Go.Proofs.Try.prog CC (draws Go.Proofs.Try.prog CC) K Go.Proofs.Try.f16 code [a0, a1, a2, a3, a4] = probe_Safe a0 a1 a2 a3 a4 := by
  unfold pureOf arun
  rw [if_pos (show [a0, a1, a2, a3, a4].length ≤ Go.Proofs.Try.f16.ntmps from (by decide +kernel : 5 ≤ Go.Proofs.Try.f16.ntmps))]
  unfold afin
  rw [show acode Go.Proofs.Try.prog CC (draws Go.Proofs.Try.prog CC) K code (args0 [a0, a1, a2, a3, a4]) AHeap.empty = body probe_asked_looks.spec probe_asked_safe.spec (args0 [a0, a1, a2, a3, a4]) AHeap.empty from body_eq probe_asked_looks.spec probe_asked_safe.spec _ _]
  kernel_rfl
theorem sound : Sound Go.Proofs.Try.prog 16 (.pure false spec) := by
  refine (sound_pure CS Mixed (draws _ _) K hf hb hok callable).less fun args r h => ?_
  unfold spec at h
  split at h
  · rw [run_eq]; exact h
  · cases h
end probe_Safe
namespace probe_Spread
noncomputable def code : Code := match Go.Proofs.Try.f19.body with | some c => c | none => .skip
def K : Nat → List Nat
  | 0 => [1, 2, 3, 4, 5, 6]
  | 1 => [3, 4, 5, 14]
  | 2 => [3, 4, 5, 14, 15]
  | 3 => [3, 4, 5, 14, 15, 24]
  | 4 => [12, 13]
  | 5 => [12, 13]
  | _ => []
noncomputable def CC : Tab := C probe_asked_looks.spec probe_asked_spread.spec
theorem CS : CC.Sound Go.Proofs.Try.prog := ((Tab.Sound.none.add probe_asked_looks.sound).add probe_asked_spread.sound)
theorem body_eq (s0 s1 : SpecP) (fr : AFr) (H : AHeap) : acode Go.Proofs.Try.prog (C s0 s1) (draws Go.Proofs.Try.prog (C s0 s1)) K code fr H = body s0 s1 fr H := by kernel_rfl
theorem callable : Callable Go.Proofs.Try.prog 19 := fun args w => Go.Proofs.Try.call19 args w
theorem hf : Go.Proofs.Try.prog.funcs[19]? = some Go.Proofs.Try.f19 := Go.Proofs.Try.func19
theorem hb : Go.Proofs.Try.f19.body = some code := by kernel_rfl
theorem hok : codeOk Go.Proofs.Try.f19.ntmps code = true := by kernel_rfl
theorem run_eq (a0 a1 a2 a3 a4 a5 : AV) : pureOf Go.Proofs.Try.prog CC (draws Go.Proofs.Try.prog CC) K Go.Proofs.Try.f19 code [a0, a1, a2, a3, a4, a5] = probe_Spread a0 a1 a2 a3 a4 a5 := by
  unfold pureOf arun
  rw [if_pos (show [a0, a1, a2, a3, a4, a5].length ≤ Go.Proofs.Try.f19.ntmps from (by decide +kernel : 6 ≤ Go.Proofs.Try.f19.ntmps))]
  unfold afin
  rw [show acode Go.Proofs.Try.prog CC (draws Go.Proofs.Try.prog CC) K code (args0 [a0, a1, a2, a3, a4, a5]) AHeap.empty = body probe_asked_looks.spec probe_asked_spread.spec (args0 [a0, a1, a2, a3, a4, a5]) AHeap.empty from body_eq probe_asked_looks.spec probe_asked_spread.spec _ _]
  kernel_rfl
theorem sound : Sound Go.Proofs.Try.prog 19 (.pure false spec) := by
  refine (sound_pure CS Mixed (draws _ _) K hf hb hok callable).less fun args r h => ?_
  unfold spec at h
  split at h
  · rw [run_eq]; exact h
  · cases h
end probe_Spread
namespace probe_First
noncomputable def code : Code := match Go.Proofs.Try.f24.body with | some c => c | none => .skip
def K : Nat → List Nat
  | 0 => [1, 2, 3, 4]
  | 1 => [3, 4, 10]
  | 2 => [3, 4, 10, 11]
  | 3 => [3, 4, 10, 11, 22]
  | 4 => [8, 9]
  | 5 => [3, 10, 12]
  | 6 => [3, 10, 12, 39]
  | 7 => [8, 9]
  | 8 => [3, 10, 12, 40, 41]
  | 9 => [3, 10, 12, 40, 41, 42]
  | 10 => [3, 10, 12, 13, 40, 41]
  | 11 => [3, 10, 12, 13, 40, 41, 45]
  | 12 => [3, 10, 12, 13, 40, 41, 50]
  | 13 => [8, 9]
  | 14 => [3, 10, 12, 13, 14, 40, 41]
  | 15 => [3, 10, 12, 13, 14, 40, 41, 57]
  | 17 => [3, 10, 12, 13, 14, 40, 41, 65]
  | 18 => [8, 9]
  | 16 => [3, 10, 12, 13, 14, 40, 41]
  | 19 => [3, 10, 12, 40, 41]
  | 20 => [8, 9]
  | _ => []
noncomputable def CC : Tab := C probe_asked_looks.spec probe_asked_safe.spec
theorem CS : CC.Sound Go.Proofs.Try.prog := ((Tab.Sound.none.add probe_asked_looks.sound).add probe_asked_safe.sound)
theorem body_eq (s0 s1 : SpecP) (fr : AFr) (H : AHeap) : acode Go.Proofs.Try.prog (C s0 s1) (draws Go.Proofs.Try.prog (C s0 s1)) K code fr H = body s0 s1 fr H := by kernel_rfl
theorem callable : Callable Go.Proofs.Try.prog 24 := fun args w => Go.Proofs.Try.call24 args w
theorem hf : Go.Proofs.Try.prog.funcs[24]? = some Go.Proofs.Try.f24 := Go.Proofs.Try.func24
theorem hb : Go.Proofs.Try.f24.body = some code := by kernel_rfl
theorem hok : codeOk Go.Proofs.Try.f24.ntmps code = true := by kernel_rfl
theorem run_eq (a0 a1 a2 a3 : AV) : pureOf Go.Proofs.Try.prog CC (draws Go.Proofs.Try.prog CC) K Go.Proofs.Try.f24 code [a0, a1, a2, a3] = probe_First a0 a1 a2 a3 := by
  unfold pureOf arun
  rw [if_pos (show [a0, a1, a2, a3].length ≤ Go.Proofs.Try.f24.ntmps from (by decide +kernel : 4 ≤ Go.Proofs.Try.f24.ntmps))]
  unfold afin
  rw [show acode Go.Proofs.Try.prog CC (draws Go.Proofs.Try.prog CC) K code (args0 [a0, a1, a2, a3]) AHeap.empty = body probe_asked_looks.spec probe_asked_safe.spec (args0 [a0, a1, a2, a3]) AHeap.empty from body_eq probe_asked_looks.spec probe_asked_safe.spec _ _]
  kernel_rfl
theorem sound : Sound Go.Proofs.Try.prog 24 (.pure false spec) := by
  refine (sound_pure CS Mixed (draws _ _) K hf hb hok callable).less fun args r h => ?_
  unfold spec at h
  split at h
  · rw [run_eq]; exact h
  · cases h
end probe_First
end Go.Abs
