/-
  That the program's functions are these. Printed by gen.py.
-/
import Derived.Test.YthignlpdeaglaaaIxF
import Derived.Test.YthignlpdeaglaaaLoP
import Derived.Test.YthignlpdeaglaaaItP
set_option linter.unusedSimpArgs false
set_option linter.unusedVariables false
namespace Go.Abs
namespace isw_order
noncomputable def code : Code := match Go.Proofs.Try.f50.body with | some c => c | none => .skip
def K : Nat → List Nat
  | 0 => [0]
  | 1 => [2]
  | _ => []
noncomputable def CC : Tab := C
theorem CS : CC.Sound Go.Proofs.Try.prog := Tab.Sound.none
theorem body_eq (fr : AFr) (H : AHeap) : acode Go.Proofs.Try.prog C (draws Go.Proofs.Try.prog C) K code fr H = body fr H := by kernel_rfl
theorem callable : Callable Go.Proofs.Try.prog 50 := fun args w => Go.Proofs.Try.call50 args w
theorem hf : Go.Proofs.Try.prog.funcs[50]? = some Go.Proofs.Try.f50 := Go.Proofs.Try.func50
theorem hb : Go.Proofs.Try.f50.body = some code := by kernel_rfl
theorem hok : codeOk Go.Proofs.Try.f50.ntmps code = true := by kernel_rfl
theorem run_eq (a0 : AV) : pureOf Go.Proofs.Try.prog CC (draws Go.Proofs.Try.prog CC) K Go.Proofs.Try.f50 code [a0] = isw_order a0 := by
  unfold pureOf arun
  rw [if_pos (show [a0].length ≤ Go.Proofs.Try.f50.ntmps from (by decide +kernel : 1 ≤ Go.Proofs.Try.f50.ntmps))]
  unfold afin
  rw [show acode Go.Proofs.Try.prog CC (draws Go.Proofs.Try.prog CC) K code (args0 [a0]) AHeap.empty = body (args0 [a0]) AHeap.empty from body_eq _ _]
  kernel_rfl
theorem sound : Sound Go.Proofs.Try.prog 50 (.pure false spec) := by
  refine (sound_pure CS Mixed (draws _ _) K hf hb hok callable).less fun args r h => ?_
  unfold spec at h
  split at h
  · rw [run_eq]; exact h
  · cases h
end isw_order
namespace isw_And_1
noncomputable def code : Code := match Go.Proofs.Try.f51.body with | some c => c | none => .skip
def K : Nat → List Nat
  | 0 => [0, 1]
  | 1 => [3]
  | _ => []
noncomputable def CC : Tab := C
theorem CS : CC.Sound Go.Proofs.Try.prog := Tab.Sound.none
theorem body_eq (fr : AFr) (H : AHeap) : acode Go.Proofs.Try.prog C (draws Go.Proofs.Try.prog C) K code fr H = body fr H := by kernel_rfl
theorem callable : Callable Go.Proofs.Try.prog 51 := fun args w => Go.Proofs.Try.call51 args w
theorem hf : Go.Proofs.Try.prog.funcs[51]? = some Go.Proofs.Try.f51 := Go.Proofs.Try.func51
theorem hb : Go.Proofs.Try.f51.body = some code := by kernel_rfl
theorem hok : codeOk Go.Proofs.Try.f51.ntmps code = true := by kernel_rfl
theorem run_eq (a0 a1 : AV) (H : AHeap) : refT Go.Proofs.Try.prog CC (draws Go.Proofs.Try.prog CC) K Go.Proofs.Try.f51 code [a0, a1] H = isw_And_1 a0 a1 H := by
  unfold refT arun
  rw [if_pos (show [a0, a1].length ≤ Go.Proofs.Try.f51.ntmps from (by decide +kernel : 2 ≤ Go.Proofs.Try.f51.ntmps))]
  unfold afin
  rw [show acode Go.Proofs.Try.prog CC (draws Go.Proofs.Try.prog CC) K code (args0 [a0, a1]) H = body (args0 [a0, a1]) H from body_eq _ _]
  kernel_rfl
theorem sound : Sound Go.Proofs.Try.prog 51 (.ref [false] spec) := by
  refine (sound_refT CS Mixed (draws _ _) K hf hb hok callable [false]).lessR fun args H r h => ?_
  unfold spec at h
  split at h
  · rw [run_eq]; exact h
  · cases h
end isw_And_1
namespace isw_maker_add
noncomputable def code : Code := match Go.Proofs.Try.f52.body with | some c => c | none => .skip
def K : Nat → List Nat
  | 0 => [0, 1, 2]
  | 1 => [0, 2, 7]
  | 2 => [0, 7, 12, 13, 14]
  | 3 => [0, 7, 12, 13, 14, 15]
  | 4 => [0, 7, 8, 9, 12, 13, 14]
  | 5 => [0, 7, 9, 12, 13, 14, 20]
  | 6 => [0, 7, 12, 13, 14]
  | 7 => [0, 7, 12, 13, 14]
  | 8 => [0, 7, 12, 13, 14]
  | 9 => [0]
  | 10 => [6]
  | _ => []
noncomputable def CC : Tab := C
theorem CS : CC.Sound Go.Proofs.Try.prog := Tab.Sound.none
theorem body_eq (fr : AFr) (H : AHeap) : acode Go.Proofs.Try.prog C (draws Go.Proofs.Try.prog C) K code fr H = body fr H := by kernel_rfl
theorem callable : Callable Go.Proofs.Try.prog 52 := fun args w => Go.Proofs.Try.call52 args w
theorem hf : Go.Proofs.Try.prog.funcs[52]? = some Go.Proofs.Try.f52 := Go.Proofs.Try.func52
theorem hb : Go.Proofs.Try.f52.body = some code := by kernel_rfl
theorem hok : codeOk Go.Proofs.Try.f52.ntmps code = true := by kernel_rfl
theorem run_eq (a0 a1 a2 : AV) (H : AHeap) : refOf Go.Proofs.Try.prog CC (draws Go.Proofs.Try.prog CC) K Go.Proofs.Try.f52 code [a0, a1, a2] H = isw_maker_add a0 a1 a2 H := by
  unfold refOf arun
  rw [if_pos (show [a0, a1, a2].length ≤ Go.Proofs.Try.f52.ntmps from (by decide +kernel : 3 ≤ Go.Proofs.Try.f52.ntmps))]
  unfold afin
  rw [show acode Go.Proofs.Try.prog CC (draws Go.Proofs.Try.prog CC) K code (args0 [a0, a1, a2]) H = body (args0 [a0, a1, a2]) H from body_eq _ _]
  kernel_rfl
theorem sound : Sound Go.Proofs.Try.prog 52 (.ref [false, false, true] spec) := by
  refine (sound_ref CS Mixed (draws _ _) K hf hb hok callable [false, false, true]).lessR fun args H r h => ?_
  unfold spec at h
  split at h
  · rw [run_eq]; exact h
  · cases h
end isw_maker_add
namespace isw_pairs
noncomputable def code : Code := match Go.Proofs.Try.f53.body with | some c => c | none => .skip
def K : Nat → List Nat
  | 0 => [1]
  | 1 => [2]
  | _ => []
noncomputable def CC : Tab := C
theorem CS : CC.Sound Go.Proofs.Try.prog := Tab.Sound.none
theorem body_eq (fr : AFr) (H : AHeap) : acode Go.Proofs.Try.prog C (draws Go.Proofs.Try.prog C) K code fr H = body fr H := by kernel_rfl
theorem callable : Callable Go.Proofs.Try.prog 53 := fun args w => Go.Proofs.Try.call53 args w
theorem hf : Go.Proofs.Try.prog.funcs[53]? = some Go.Proofs.Try.f53 := Go.Proofs.Try.func53
theorem hb : Go.Proofs.Try.f53.body = some code := by kernel_rfl
theorem hok : codeOk Go.Proofs.Try.f53.ntmps code = true := by kernel_rfl
theorem run_eq (a0 : AV) (H : AHeap) : refOf Go.Proofs.Try.prog CC (draws Go.Proofs.Try.prog CC) K Go.Proofs.Try.f53 code [a0] H = isw_pairs a0 H := by
  unfold refOf arun
  rw [if_pos (show [a0].length ≤ Go.Proofs.Try.f53.ntmps from (by decide +kernel : 1 ≤ Go.Proofs.Try.f53.ntmps))]
  unfold afin
  rw [show acode Go.Proofs.Try.prog CC (draws Go.Proofs.Try.prog CC) K code (args0 [a0]) H = body (args0 [a0]) H from body_eq _ _]
  kernel_rfl
theorem sound : Sound Go.Proofs.Try.prog 53 (.ref [false] spec) := by
  refine (sound_ref CS Mixed (draws _ _) K hf hb hok callable [false]).lessR fun args H r h => ?_
  unfold spec at h
  split at h
  · rw [run_eq]; exact h
  · cases h
end isw_pairs
namespace isw_And
noncomputable def code : Code := match Go.Proofs.Try.f26.body with | some c => c | none => .skip
def K : Nat → List Nat
  | 0 => [1, 2]
  | 1 => [1, 2, 14]
  | 2 => [2, 3]
  | 3 => [1, 2, 4]
  | 4 => [1, 2, 4, 5]
  | 5 => [1, 2, 4, 5, 24, 25]
  | 6 => [1, 2, 4, 5, 24, 25, 26]
  | 7 => [1, 2, 4, 5, 6, 24, 25]
  | 8 => [1, 2, 4, 5, 24, 25]
  | 9 => [1, 2, 4, 5, 24, 25]
  | 10 => [2, 4, 5, 48]
  | 11 => [4, 5, 7, 50]
  | 12 => [4, 5, 7, 8]
  | 13 => [4, 5, 7, 8, 9]
  | 14 => [4, 5, 7, 8, 9, 10]
  | 15 => [4, 7, 8, 9, 11]
  | 16 => [4, 8, 11]
  | 17 => []
  | 18 => [2, 3]
  | _ => []
noncomputable def CC : Tab := C isw_order.spec isw_maker_add.spec isw_pairs.spec isw_pairs_1.spec isw_And_1.spec
theorem CS : CC.Sound Go.Proofs.Try.prog := (((((Tab.Sound.none.add isw_order.sound).add isw_maker_add.sound).add isw_pairs.sound).add isw_pairs_1.sound).add isw_And_1.sound)
theorem body_eq (s0 : SpecP) (s1 s2 : SpecM) (s3 : SpecI) (s4 : SpecM) (fr : AFr) (H : AHeap) : acode Go.Proofs.Try.prog (C s0 s1 s2 s3 s4) (draws Go.Proofs.Try.prog (C s0 s1 s2 s3 s4)) K code fr H = body s0 s1 s2 s3 s4 fr H := by kernel_rfl
theorem callable : Callable Go.Proofs.Try.prog 26 := fun args w => Go.Proofs.Try.call26 args w
theorem hf : Go.Proofs.Try.prog.funcs[26]? = some Go.Proofs.Try.f26 := Go.Proofs.Try.func26
theorem hb : Go.Proofs.Try.f26.body = some code := by kernel_rfl
theorem hok : codeOk Go.Proofs.Try.f26.ntmps code = true := by kernel_rfl
theorem run_eq (a0 : AV) : pureOf Go.Proofs.Try.prog CC (draws Go.Proofs.Try.prog CC) K Go.Proofs.Try.f26 code [a0] = isw_And a0 := by
  unfold pureOf arun
  rw [if_pos (show [a0].length ≤ Go.Proofs.Try.f26.ntmps from (by decide +kernel : 1 ≤ Go.Proofs.Try.f26.ntmps))]
  unfold afin
  rw [show acode Go.Proofs.Try.prog CC (draws Go.Proofs.Try.prog CC) K code (args0 [a0]) AHeap.empty = body isw_order.spec isw_maker_add.spec isw_pairs.spec isw_pairs_1.spec isw_And_1.spec (args0 [a0]) AHeap.empty from body_eq isw_order.spec isw_maker_add.spec isw_pairs.spec isw_pairs_1.spec isw_And_1.spec _ _]
  kernel_rfl
theorem sound : Sound Go.Proofs.Try.prog 26 (.pure false spec) := by
  refine (sound_pure CS Mixed (draws _ _) K hf hb hok callable).less fun args r h => ?_
  unfold spec at h
  split at h
  · rw [run_eq]; exact h
  · cases h
end isw_And
namespace isw_Refresh
noncomputable def code : Code := match Go.Proofs.Try.f30.body with | some c => c | none => .skip
def K : Nat → List Nat
  | 0 => [0, 2]
  | 1 => [0, 2, 11]
  | 2 => [2, 3]
  | 3 => [0, 2, 4]
  | 4 => [0, 2, 4, 19, 20]
  | 5 => [0, 2, 4, 19, 20, 21]
  | 6 => [0, 2, 4, 5, 19, 20]
  | 7 => [0, 2, 4, 19, 20]
  | 8 => [0, 2, 4, 19, 20]
  | 9 => [2, 4, 37]
  | 10 => [4, 6, 39]
  | 11 => [4, 6, 7]
  | 12 => [4, 6, 7, 8]
  | 13 => [4, 7, 8]
  | 14 => []
  | 15 => [2, 3]
  | _ => []
noncomputable def CC : Tab := C isw_order.spec isw_pairs.spec isw_maker_add.spec isw_pairs_1.spec
theorem CS : CC.Sound Go.Proofs.Try.prog := ((((Tab.Sound.none.add isw_order.sound).add isw_pairs.sound).add isw_maker_add.sound).add isw_pairs_1.sound)
theorem body_eq (s0 : SpecP) (s1 s2 : SpecM) (s3 : SpecI) (fr : AFr) (H : AHeap) : acode Go.Proofs.Try.prog (C s0 s1 s2 s3) (draws Go.Proofs.Try.prog (C s0 s1 s2 s3)) K code fr H = body s0 s1 s2 s3 fr H := by kernel_rfl
theorem callable : Callable Go.Proofs.Try.prog 30 := fun args w => Go.Proofs.Try.call30 args w
theorem hf : Go.Proofs.Try.prog.funcs[30]? = some Go.Proofs.Try.f30 := Go.Proofs.Try.func30
theorem hb : Go.Proofs.Try.f30.body = some code := by kernel_rfl
theorem hok : codeOk Go.Proofs.Try.f30.ntmps code = true := by kernel_rfl
theorem run_eq (a0 : AV) : pureOf Go.Proofs.Try.prog CC (draws Go.Proofs.Try.prog CC) K Go.Proofs.Try.f30 code [a0] = isw_Refresh a0 := by
  unfold pureOf arun
  rw [if_pos (show [a0].length ≤ Go.Proofs.Try.f30.ntmps from (by decide +kernel : 1 ≤ Go.Proofs.Try.f30.ntmps))]
  unfold afin
  rw [show acode Go.Proofs.Try.prog CC (draws Go.Proofs.Try.prog CC) K code (args0 [a0]) AHeap.empty = body isw_order.spec isw_pairs.spec isw_maker_add.spec isw_pairs_1.spec (args0 [a0]) AHeap.empty from body_eq isw_order.spec isw_pairs.spec isw_maker_add.spec isw_pairs_1.spec _ _]
  kernel_rfl
theorem sound : Sound Go.Proofs.Try.prog 30 (.pure false spec) := by
  refine (sound_pure CS Mixed (draws _ _) K hf hb hok callable).less fun args r h => ?_
  unfold spec at h
  split at h
  · rw [run_eq]; exact h
  · cases h
end isw_Refresh
namespace isw_number
def K : Nat → List Nat
  | 0 => [1]
  | 1 => [1, 4]
  | 2 => [1, 4, 5]
  | 3 => [2]
  | 4 => [1, 4, 7]
  | 5 => [1, 4, 7]
  | 6 => [1, 7]
  | 7 => [2]
  | 8 => [2]
  | _ => []
end isw_number
namespace isw_randoms
noncomputable def code : Code := match Go.Proofs.Try.f57.body with | some c => c | none => .skip
def K : Nat → List Nat
  | 0 => [1]
  | 1 => [1, 3]
  | 2 => [3, 7, 8, 9]
  | 3 => [3, 7, 8, 9, 10]
  | 4 => [3, 5, 7, 8, 9]
  | 5 => [3, 7, 8, 9, 15]
  | 6 => [3, 7, 8, 9]
  | 7 => [3, 7, 8, 9]
  | 8 => [2]
  | _ => []
noncomputable def CC : Tab := C
theorem CS : CC.Sound Go.Proofs.Try.prog := Tab.Sound.none
theorem body_eq (fr : AFr) (H : AHeap) : acode Go.Proofs.Try.prog C (draws Go.Proofs.Try.prog C) K code fr H = body fr H := by kernel_rfl
theorem callable : Callable Go.Proofs.Try.prog 57 := fun args w => Go.Proofs.Try.call57 args w
theorem hf : Go.Proofs.Try.prog.funcs[57]? = some Go.Proofs.Try.f57 := Go.Proofs.Try.func57
theorem hb : Go.Proofs.Try.f57.body = some code := by kernel_rfl
theorem hok : codeOk Go.Proofs.Try.f57.ntmps code = true := by kernel_rfl
theorem run_eq (a0 : AV) : pureOf Go.Proofs.Try.prog CC (draws Go.Proofs.Try.prog CC) K Go.Proofs.Try.f57 code [a0] = isw_randoms a0 := by
  unfold pureOf arun
  rw [if_pos (show [a0].length ≤ Go.Proofs.Try.f57.ntmps from (by decide +kernel : 1 ≤ Go.Proofs.Try.f57.ntmps))]
  unfold afin
  rw [show acode Go.Proofs.Try.prog CC (draws Go.Proofs.Try.prog CC) K code (args0 [a0]) AHeap.empty = body (args0 [a0]) AHeap.empty from body_eq _ _]
  kernel_rfl
theorem sound : Sound Go.Proofs.Try.prog 57 (.pure false spec) := by
  refine (sound_pure CS Mixed (draws _ _) K hf hb hok callable).less fun args r h => ?_
  unfold spec at h
  split at h
  · rw [run_eq]; exact h
  · cases h
end isw_randoms
namespace isw_Randoms
noncomputable def code : Code := match Go.Proofs.Try.f34.body with | some c => c | none => .skip
def K : Nat → List Nat
  | 0 => [1]
  | 1 => [2]
  | _ => []
noncomputable def CC : Tab := C isw_randoms.spec
theorem CS : CC.Sound Go.Proofs.Try.prog := (Tab.Sound.none.add isw_randoms.sound)
theorem body_eq (s0 : SpecP) (fr : AFr) (H : AHeap) : acode Go.Proofs.Try.prog (C s0) (draws Go.Proofs.Try.prog (C s0)) K code fr H = body s0 fr H := by kernel_rfl
theorem callable : Callable Go.Proofs.Try.prog 34 := fun args w => Go.Proofs.Try.call34 args w
theorem hf : Go.Proofs.Try.prog.funcs[34]? = some Go.Proofs.Try.f34 := Go.Proofs.Try.func34
theorem hb : Go.Proofs.Try.f34.body = some code := by kernel_rfl
theorem hok : codeOk Go.Proofs.Try.f34.ntmps code = true := by kernel_rfl
theorem run_eq (a0 : AV) : pureOf Go.Proofs.Try.prog CC (draws Go.Proofs.Try.prog CC) K Go.Proofs.Try.f34 code [a0] = isw_Randoms a0 := by
  unfold pureOf arun
  rw [if_pos (show [a0].length ≤ Go.Proofs.Try.f34.ntmps from (by decide +kernel : 1 ≤ Go.Proofs.Try.f34.ntmps))]
  unfold afin
  rw [show acode Go.Proofs.Try.prog CC (draws Go.Proofs.Try.prog CC) K code (args0 [a0]) AHeap.empty = body isw_randoms.spec (args0 [a0]) AHeap.empty from body_eq isw_randoms.spec _ _]
  kernel_rfl
theorem sound : Sound Go.Proofs.Try.prog 34 (.pure false spec) := by
  refine (sound_pure CS Mixed (draws _ _) K hf hb hok callable).less fun args r h => ?_
  unfold spec at h
  split at h
  · rw [run_eq]; exact h
  · cases h
end isw_Randoms
end Go.Abs
