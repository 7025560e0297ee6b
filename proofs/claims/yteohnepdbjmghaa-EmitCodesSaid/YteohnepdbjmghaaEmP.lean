/-
  That the program's functions are these. Printed by gen.py.
-/
import Derived.Test.YteohnepdbjmghaaEmF
import Derived.Test.YteohnepdbjmghaaIxP
import Derived.Test.YteohnepdbjmghaaLoP
set_option linter.unusedSimpArgs false
set_option linter.unusedVariables false
namespace Go.Abs
namespace emit_takes
noncomputable def code : Code := match Go.Proofs.Try.f69.body with | some c => c | none => .skip
def K : Nat → List Nat
  | 0 => [0]
  | 1 => [3]
  | 2 => [3, 4]
  | 3 => [3, 4]
  | 4 => [2]
  | 5 => [3, 7]
  | 6 => [7]
  | 7 => [2]
  | 8 => [2]
  | _ => []
noncomputable def CC : Tab := C
theorem CS : CC.Sound Go.Proofs.Try.prog := Tab.Sound.none
theorem body_eq (fr : AFr) (H : AHeap) : acode Go.Proofs.Try.prog C (draws Go.Proofs.Try.prog C) K code fr H = body fr H := by kernel_rfl
theorem callable : Callable Go.Proofs.Try.prog 69 := fun args w => Go.Proofs.Try.call69 args w
theorem hf : Go.Proofs.Try.prog.funcs[69]? = some Go.Proofs.Try.f69 := Go.Proofs.Try.func69
theorem hb : Go.Proofs.Try.f69.body = some code := by kernel_rfl
theorem hok : codeOk Go.Proofs.Try.f69.ntmps code = true := by kernel_rfl
theorem run_eq (a0 : AV) : pureOf Go.Proofs.Try.prog CC (draws Go.Proofs.Try.prog CC) K Go.Proofs.Try.f69 code [a0] = emit_takes a0 := by
  unfold pureOf arun
  rw [if_pos (show [a0].length ≤ Go.Proofs.Try.f69.ntmps from (by decide +kernel : 1 ≤ Go.Proofs.Try.f69.ntmps))]
  unfold afin
  rw [show acode Go.Proofs.Try.prog CC (draws Go.Proofs.Try.prog CC) K code (args0 [a0]) AHeap.empty = body (args0 [a0]) AHeap.empty from body_eq _ _]
  kernel_rfl
theorem sound : Sound Go.Proofs.Try.prog 69 (.pure false spec) := by
  refine (sound_pure CS Mixed (draws _ _) K hf hb hok callable).less fun args r h => ?_
  unfold spec at h
  split at h
  · rw [run_eq]; exact h
  · cases h
end emit_takes
namespace emit_slot
noncomputable def code : Code := match Go.Proofs.Try.f70.body with | some c => c | none => .skip
def K : Nat → List Nat
  | 0 => [0]
  | 1 => [2]
  | _ => []
noncomputable def CC : Tab := C
theorem CS : CC.Sound Go.Proofs.Try.prog := Tab.Sound.none
theorem body_eq (fr : AFr) (H : AHeap) : acode Go.Proofs.Try.prog C (draws Go.Proofs.Try.prog C) K code fr H = body fr H := by kernel_rfl
theorem callable : Callable Go.Proofs.Try.prog 70 := fun args w => Go.Proofs.Try.call70 args w
theorem hf : Go.Proofs.Try.prog.funcs[70]? = some Go.Proofs.Try.f70 := Go.Proofs.Try.func70
theorem hb : Go.Proofs.Try.f70.body = some code := by kernel_rfl
theorem hok : codeOk Go.Proofs.Try.f70.ntmps code = true := by kernel_rfl
theorem run_eq (a0 : AV) : pureOf Go.Proofs.Try.prog CC (draws Go.Proofs.Try.prog CC) K Go.Proofs.Try.f70 code [a0] = emit_slot a0 := by
  unfold pureOf arun
  rw [if_pos (show [a0].length ≤ Go.Proofs.Try.f70.ntmps from (by decide +kernel : 1 ≤ Go.Proofs.Try.f70.ntmps))]
  unfold afin
  rw [show acode Go.Proofs.Try.prog CC (draws Go.Proofs.Try.prog CC) K code (args0 [a0]) AHeap.empty = body (args0 [a0]) AHeap.empty from body_eq _ _]
  kernel_rfl
theorem sound : Sound Go.Proofs.Try.prog 70 (.pure false spec) := by
  refine (sound_pure CS Mixed (draws _ _) K hf hb hok callable).less fun args r h => ?_
  unfold spec at h
  split at h
  · rw [run_eq]; exact h
  · cases h
end emit_slot
namespace verify_asked_ready_1
noncomputable def code : Code := match Go.Proofs.Try.f140.body with | some c => c | none => .skip
def K : Nat → List Nat
  | 0 => [0, 1]
  | 1 => [3]
  | _ => []
noncomputable def CC : Tab := C
theorem CS : CC.Sound Go.Proofs.Try.prog := Tab.Sound.none
theorem body_eq (fr : AFr) (H : AHeap) : acode Go.Proofs.Try.prog C (draws Go.Proofs.Try.prog C) K code fr H = body fr H := by kernel_rfl
theorem callable : Callable Go.Proofs.Try.prog 140 := fun args w => Go.Proofs.Try.call140 args w
theorem hf : Go.Proofs.Try.prog.funcs[140]? = some Go.Proofs.Try.f140 := Go.Proofs.Try.func140
theorem hb : Go.Proofs.Try.f140.body = some code := by kernel_rfl
theorem hok : codeOk Go.Proofs.Try.f140.ntmps code = true := by kernel_rfl
theorem run_eq (a0 a1 : AV) (H : AHeap) : refT Go.Proofs.Try.prog CC (draws Go.Proofs.Try.prog CC) K Go.Proofs.Try.f140 code [a0, a1] H = verify_asked_ready_1 a0 a1 H := by
  unfold refT arun
  rw [if_pos (show [a0, a1].length ≤ Go.Proofs.Try.f140.ntmps from (by decide +kernel : 2 ≤ Go.Proofs.Try.f140.ntmps))]
  unfold afin
  rw [show acode Go.Proofs.Try.prog CC (draws Go.Proofs.Try.prog CC) K code (args0 [a0, a1]) H = body (args0 [a0, a1]) H from body_eq _ _]
  kernel_rfl
theorem sound : Sound Go.Proofs.Try.prog 140 (.ref [false] spec) := by
  refine (sound_refT CS Mixed (draws _ _) K hf hb hok callable [false]).lessR fun args H r h => ?_
  unfold spec at h
  split at h
  · rw [run_eq]; exact h
  · cases h
end verify_asked_ready_1
namespace emit_Code_1
noncomputable def code : Code := match Go.Proofs.Try.f80.body with | some c => c | none => .skip
def K : Nat → List Nat
  | 0 => [0]
  | 1 => [2]
  | _ => []
noncomputable def CC : Tab := C emit_slot.spec
theorem CS : CC.Sound Go.Proofs.Try.prog := (Tab.Sound.none.add emit_slot.sound)
theorem body_eq (s0 : SpecP) (fr : AFr) (H : AHeap) : acode Go.Proofs.Try.prog (C s0) (draws Go.Proofs.Try.prog (C s0)) K code fr H = body s0 fr H := by kernel_rfl
theorem callable : Callable Go.Proofs.Try.prog 80 := fun args w => Go.Proofs.Try.call80 args w
theorem hf : Go.Proofs.Try.prog.funcs[80]? = some Go.Proofs.Try.f80 := Go.Proofs.Try.func80
theorem hb : Go.Proofs.Try.f80.body = some code := by kernel_rfl
theorem hok : codeOk Go.Proofs.Try.f80.ntmps code = true := by kernel_rfl
theorem run_eq (a0 : AV) : pureOf Go.Proofs.Try.prog CC (draws Go.Proofs.Try.prog CC) K Go.Proofs.Try.f80 code [a0] = emit_Code_1 a0 := by
  unfold pureOf arun
  rw [if_pos (show [a0].length ≤ Go.Proofs.Try.f80.ntmps from (by decide +kernel : 1 ≤ Go.Proofs.Try.f80.ntmps))]
  unfold afin
  rw [show acode Go.Proofs.Try.prog CC (draws Go.Proofs.Try.prog CC) K code (args0 [a0]) AHeap.empty = body emit_slot.spec (args0 [a0]) AHeap.empty from body_eq emit_slot.spec _ _]
  kernel_rfl
theorem sound : Sound Go.Proofs.Try.prog 80 (.pure false spec) := by
  refine (sound_pure CS Mixed (draws _ _) K hf hb hok callable).less fun args r h => ?_
  unfold spec at h
  split at h
  · rw [run_eq]; exact h
  · cases h
end emit_Code_1
namespace emit_Step_1
noncomputable def code : Code := match Go.Proofs.Try.f72.body with | some c => c | none => .skip
def K : Nat → List Nat
  | 0 => [0]
  | 1 => [2]
  | _ => []
noncomputable def CC : Tab := C emit_slot.spec
theorem CS : CC.Sound Go.Proofs.Try.prog := (Tab.Sound.none.add emit_slot.sound)
theorem body_eq (s0 : SpecP) (fr : AFr) (H : AHeap) : acode Go.Proofs.Try.prog (C s0) (draws Go.Proofs.Try.prog (C s0)) K code fr H = body s0 fr H := by kernel_rfl
theorem callable : Callable Go.Proofs.Try.prog 72 := fun args w => Go.Proofs.Try.call72 args w
theorem hf : Go.Proofs.Try.prog.funcs[72]? = some Go.Proofs.Try.f72 := Go.Proofs.Try.func72
theorem hb : Go.Proofs.Try.f72.body = some code := by kernel_rfl
theorem hok : codeOk Go.Proofs.Try.f72.ntmps code = true := by kernel_rfl
theorem run_eq (a0 : AV) : pureOf Go.Proofs.Try.prog CC (draws Go.Proofs.Try.prog CC) K Go.Proofs.Try.f72 code [a0] = emit_Step_1 a0 := by
  unfold pureOf arun
  rw [if_pos (show [a0].length ≤ Go.Proofs.Try.f72.ntmps from (by decide +kernel : 1 ≤ Go.Proofs.Try.f72.ntmps))]
  unfold afin
  rw [show acode Go.Proofs.Try.prog CC (draws Go.Proofs.Try.prog CC) K code (args0 [a0]) AHeap.empty = body emit_slot.spec (args0 [a0]) AHeap.empty from body_eq emit_slot.spec _ _]
  kernel_rfl
theorem sound : Sound Go.Proofs.Try.prog 72 (.pure false spec) := by
  refine (sound_pure CS Mixed (draws _ _) K hf hb hok callable).less fun args r h => ?_
  unfold spec at h
  split at h
  · rw [run_eq]; exact h
  · cases h
end emit_Step_1
namespace slices_IndexFunc_int
noncomputable def code : Code := match Go.Proofs.Try.f114.body with | some c => c | none => .skip
def K : Nat → List Nat
  | 0 => [0, 1]
  | 1 => [0, 1, 7, 8]
  | 2 => [0, 1, 7, 8, 9]
  | 3 => [0, 1, 5, 7, 8]
  | 4 => [0, 1, 5, 7, 8, 16]
  | 5 => [4]
  | 6 => [0, 1, 7, 8]
  | 7 => [4]
  | _ => []
noncomputable def CC : Tab := C emit_Step_1.spec emit_Code_1.spec verify_asked_ready_1.spec
theorem CS : CC.Sound Go.Proofs.Try.prog := (((Tab.Sound.none.add emit_Step_1.sound).add emit_Code_1.sound).add verify_asked_ready_1.sound)
theorem body_eq (s0 s1 : SpecP) (s2 : SpecM) (fr : AFr) (H : AHeap) : acode Go.Proofs.Try.prog (C s0 s1 s2) (draws Go.Proofs.Try.prog (C s0 s1 s2)) K code fr H = body s0 s1 s2 fr H := by kernel_rfl
theorem callable : Callable Go.Proofs.Try.prog 114 := fun args w => Go.Proofs.Try.call114 args w
theorem hf : Go.Proofs.Try.prog.funcs[114]? = some Go.Proofs.Try.f114 := Go.Proofs.Try.func114
theorem hb : Go.Proofs.Try.f114.body = some code := by kernel_rfl
theorem hok : codeOk Go.Proofs.Try.f114.ntmps code = true := by kernel_rfl
theorem run_eq (a0 a1 : AV) (H : AHeap) : refT Go.Proofs.Try.prog CC (draws Go.Proofs.Try.prog CC) K Go.Proofs.Try.f114 code [a0, a1] H = slices_IndexFunc_int a0 a1 H := by
  unfold refT arun
  rw [if_pos (show [a0, a1].length ≤ Go.Proofs.Try.f114.ntmps from (by decide +kernel : 2 ≤ Go.Proofs.Try.f114.ntmps))]
  unfold afin
  rw [show acode Go.Proofs.Try.prog CC (draws Go.Proofs.Try.prog CC) K code (args0 [a0, a1]) H = body emit_Step_1.spec emit_Code_1.spec verify_asked_ready_1.spec (args0 [a0, a1]) H from body_eq emit_Step_1.spec emit_Code_1.spec verify_asked_ready_1.spec _ _]
  kernel_rfl
theorem sound : Sound Go.Proofs.Try.prog 114 (.ref [true, false] spec) := by
  refine (sound_refT CS Mixed (draws _ _) K hf hb hok callable [true, false]).lessR fun args H r h => ?_
  unfold spec at h
  split at h
  · rw [run_eq]; exact h
  · cases h
end slices_IndexFunc_int
namespace slices_ContainsFunc_int
noncomputable def code : Code := match Go.Proofs.Try.f71.body with | some c => c | none => .skip
def K : Nat → List Nat
  | 0 => [0, 1]
  | 1 => [4]
  | _ => []
noncomputable def CC : Tab := C slices_IndexFunc_int.spec
theorem CS : CC.Sound Go.Proofs.Try.prog := (Tab.Sound.none.add slices_IndexFunc_int.sound)
theorem body_eq (s0 : SpecM) (fr : AFr) (H : AHeap) : acode Go.Proofs.Try.prog (C s0) (draws Go.Proofs.Try.prog (C s0)) K code fr H = body s0 fr H := by kernel_rfl
theorem callable : Callable Go.Proofs.Try.prog 71 := fun args w => Go.Proofs.Try.call71 args w
theorem hf : Go.Proofs.Try.prog.funcs[71]? = some Go.Proofs.Try.f71 := Go.Proofs.Try.func71
theorem hb : Go.Proofs.Try.f71.body = some code := by kernel_rfl
theorem hok : codeOk Go.Proofs.Try.f71.ntmps code = true := by kernel_rfl
theorem run_eq (a0 a1 : AV) (H : AHeap) : refT Go.Proofs.Try.prog CC (draws Go.Proofs.Try.prog CC) K Go.Proofs.Try.f71 code [a0, a1] H = slices_ContainsFunc_int a0 a1 H := by
  unfold refT arun
  rw [if_pos (show [a0, a1].length ≤ Go.Proofs.Try.f71.ntmps from (by decide +kernel : 2 ≤ Go.Proofs.Try.f71.ntmps))]
  unfold afin
  rw [show acode Go.Proofs.Try.prog CC (draws Go.Proofs.Try.prog CC) K code (args0 [a0, a1]) H = body slices_IndexFunc_int.spec (args0 [a0, a1]) H from body_eq slices_IndexFunc_int.spec _ _]
  kernel_rfl
theorem sound : Sound Go.Proofs.Try.prog 71 (.ref [true, false] spec) := by
  refine (sound_refT CS Mixed (draws _ _) K hf hb hok callable [true, false]).lessR fun args H r h => ?_
  unfold spec at h
  split at h
  · rw [run_eq]; exact h
  · cases h
end slices_ContainsFunc_int
namespace emit_mov
noncomputable def code : Code := match Go.Proofs.Try.f78.body with | some c => c | none => .skip
def K : Nat → List Nat
  | 0 => [0, 1, 4]
  | 1 => [4]
  | _ => []
noncomputable def CC : Tab := C
theorem CS : CC.Sound Go.Proofs.Try.prog := Tab.Sound.none
theorem body_eq (fr : AFr) (H : AHeap) : acode Go.Proofs.Try.prog C (draws Go.Proofs.Try.prog C) K code fr H = body fr H := by kernel_rfl
theorem callable : Callable Go.Proofs.Try.prog 78 := fun args w => Go.Proofs.Try.call78 args w
theorem hf : Go.Proofs.Try.prog.funcs[78]? = some Go.Proofs.Try.f78 := Go.Proofs.Try.func78
theorem hb : Go.Proofs.Try.f78.body = some code := by kernel_rfl
theorem hok : codeOk Go.Proofs.Try.f78.ntmps code = true := by kernel_rfl
theorem run_eq (a0 a1 : AV) : pureOf Go.Proofs.Try.prog CC (draws Go.Proofs.Try.prog CC) K Go.Proofs.Try.f78 code [a0, a1] = emit_mov a0 a1 := by
  unfold pureOf arun
  rw [if_pos (show [a0, a1].length ≤ Go.Proofs.Try.f78.ntmps from (by decide +kernel : 2 ≤ Go.Proofs.Try.f78.ntmps))]
  unfold afin
  rw [show acode Go.Proofs.Try.prog CC (draws Go.Proofs.Try.prog CC) K code (args0 [a0, a1]) AHeap.empty = body (args0 [a0, a1]) AHeap.empty from body_eq _ _]
  kernel_rfl
theorem sound : Sound Go.Proofs.Try.prog 78 (.pure false spec) := by
  refine (sound_pure CS Mixed (draws _ _) K hf hb hok callable).less fun args r h => ?_
  unfold spec at h
  split at h
  · rw [run_eq]; exact h
  · cases h
end emit_mov
namespace emit_left
noncomputable def code : Code := match Go.Proofs.Try.f79.body with | some c => c | none => .skip
def K : Nat → List Nat
  | 0 => [0, 1, 4]
  | 1 => [4]
  | _ => []
noncomputable def CC : Tab := C
theorem CS : CC.Sound Go.Proofs.Try.prog := Tab.Sound.none
theorem body_eq (fr : AFr) (H : AHeap) : acode Go.Proofs.Try.prog C (draws Go.Proofs.Try.prog C) K code fr H = body fr H := by kernel_rfl
theorem callable : Callable Go.Proofs.Try.prog 79 := fun args w => Go.Proofs.Try.call79 args w
theorem hf : Go.Proofs.Try.prog.funcs[79]? = some Go.Proofs.Try.f79 := Go.Proofs.Try.func79
theorem hb : Go.Proofs.Try.f79.body = some code := by kernel_rfl
theorem hok : codeOk Go.Proofs.Try.f79.ntmps code = true := by kernel_rfl
theorem run_eq (a0 a1 : AV) : pureOf Go.Proofs.Try.prog CC (draws Go.Proofs.Try.prog CC) K Go.Proofs.Try.f79 code [a0, a1] = emit_left a0 a1 := by
  unfold pureOf arun
  rw [if_pos (show [a0, a1].length ≤ Go.Proofs.Try.f79.ntmps from (by decide +kernel : 2 ≤ Go.Proofs.Try.f79.ntmps))]
  unfold afin
  rw [show acode Go.Proofs.Try.prog CC (draws Go.Proofs.Try.prog CC) K code (args0 [a0, a1]) AHeap.empty = body (args0 [a0, a1]) AHeap.empty from body_eq _ _]
  kernel_rfl
theorem sound : Sound Go.Proofs.Try.prog 79 (.pure false spec) := by
  refine (sound_pure CS Mixed (draws _ _) K hf hb hok callable).less fun args r h => ?_
  unfold spec at h
  split at h
  · rw [run_eq]; exact h
  · cases h
end emit_left
namespace emit_add
noncomputable def code : Code := match Go.Proofs.Try.f121.body with | some c => c | none => .skip
def K : Nat → List Nat
  | 0 => [0, 1, 4]
  | 1 => [4]
  | _ => []
noncomputable def CC : Tab := C
theorem CS : CC.Sound Go.Proofs.Try.prog := Tab.Sound.none
theorem body_eq (fr : AFr) (H : AHeap) : acode Go.Proofs.Try.prog C (draws Go.Proofs.Try.prog C) K code fr H = body fr H := by kernel_rfl
theorem callable : Callable Go.Proofs.Try.prog 121 := fun args w => Go.Proofs.Try.call121 args w
theorem hf : Go.Proofs.Try.prog.funcs[121]? = some Go.Proofs.Try.f121 := Go.Proofs.Try.func121
theorem hb : Go.Proofs.Try.f121.body = some code := by kernel_rfl
theorem hok : codeOk Go.Proofs.Try.f121.ntmps code = true := by kernel_rfl
theorem run_eq (a0 a1 : AV) : pureOf Go.Proofs.Try.prog CC (draws Go.Proofs.Try.prog CC) K Go.Proofs.Try.f121 code [a0, a1] = emit_add a0 a1 := by
  unfold pureOf arun
  rw [if_pos (show [a0, a1].length ≤ Go.Proofs.Try.f121.ntmps from (by decide +kernel : 2 ≤ Go.Proofs.Try.f121.ntmps))]
  unfold afin
  rw [show acode Go.Proofs.Try.prog CC (draws Go.Proofs.Try.prog CC) K code (args0 [a0, a1]) AHeap.empty = body (args0 [a0, a1]) AHeap.empty from body_eq _ _]
  kernel_rfl
theorem sound : Sound Go.Proofs.Try.prog 121 (.pure false spec) := by
  refine (sound_pure CS Mixed (draws _ _) K hf hb hok callable).less fun args r h => ?_
  unfold spec at h
  split at h
  · rw [run_eq]; exact h
  · cases h
end emit_add
namespace emit_at_ref
noncomputable def code : Code := match Go.Proofs.Try.f77.body with | some c => c | none => .skip
def K : Nat → List Nat
  | 0 => [0]
  | 1 => [0]
  | 2 => [0, 6]
  | 3 => [2]
  | 4 => [2]
  | _ => []
noncomputable def CC : Tab := C emit_mov.spec emit_left.spec emit_add.spec
theorem CS : CC.Sound Go.Proofs.Try.prog := (((Tab.Sound.none.add emit_mov.sound).add emit_left.sound).add emit_add.sound)
theorem body_eq (s0 s1 s2 : SpecP) (fr : AFr) (H : AHeap) : acode Go.Proofs.Try.prog (C s0 s1 s2) (draws Go.Proofs.Try.prog (C s0 s1 s2)) K code fr H = body s0 s1 s2 fr H := by kernel_rfl
theorem callable : Callable Go.Proofs.Try.prog 77 := fun args w => Go.Proofs.Try.call77 args w
theorem hf : Go.Proofs.Try.prog.funcs[77]? = some Go.Proofs.Try.f77 := Go.Proofs.Try.func77
theorem hb : Go.Proofs.Try.f77.body = some code := by kernel_rfl
theorem hok : codeOk Go.Proofs.Try.f77.ntmps code = true := by kernel_rfl
theorem run_eq (a0 : AV) (H : AHeap) : refOf Go.Proofs.Try.prog CC (draws Go.Proofs.Try.prog CC) K Go.Proofs.Try.f77 code [a0] H = emit_at_ref a0 H := by
  unfold refOf arun
  rw [if_pos (show [a0].length ≤ Go.Proofs.Try.f77.ntmps from (by decide +kernel : 1 ≤ Go.Proofs.Try.f77.ntmps))]
  unfold afin
  rw [show acode Go.Proofs.Try.prog CC (draws Go.Proofs.Try.prog CC) K code (args0 [a0]) H = body emit_mov.spec emit_left.spec emit_add.spec (args0 [a0]) H from body_eq emit_mov.spec emit_left.spec emit_add.spec _ _]
  kernel_rfl
theorem sound : Sound Go.Proofs.Try.prog 77 (.ref [false] spec) := by
  refine (sound_ref CS Mixed (draws _ _) K hf hb hok callable [false]).lessR fun args H r h => ?_
  unfold spec at h
  split at h
  · rw [run_eq]; exact h
  · cases h
end emit_at_ref
namespace emit_get
noncomputable def code : Code := match Go.Proofs.Try.f115.body with | some c => c | none => .skip
def K : Nat → List Nat
  | 0 => [0, 1]
  | 1 => [4]
  | _ => []
noncomputable def CC : Tab := C emit_at_ref.spec
theorem CS : CC.Sound Go.Proofs.Try.prog := (Tab.Sound.none.add emit_at_ref.sound)
theorem body_eq (s0 : SpecM) (fr : AFr) (H : AHeap) : acode Go.Proofs.Try.prog (C s0) (draws Go.Proofs.Try.prog (C s0)) K code fr H = body s0 fr H := by kernel_rfl
theorem callable : Callable Go.Proofs.Try.prog 115 := fun args w => Go.Proofs.Try.call115 args w
theorem hf : Go.Proofs.Try.prog.funcs[115]? = some Go.Proofs.Try.f115 := Go.Proofs.Try.func115
theorem hb : Go.Proofs.Try.f115.body = some code := by kernel_rfl
theorem hok : codeOk Go.Proofs.Try.f115.ntmps code = true := by kernel_rfl
theorem run_eq (a0 a1 : AV) : pureOf Go.Proofs.Try.prog CC (draws Go.Proofs.Try.prog CC) K Go.Proofs.Try.f115 code [a0, a1] = emit_get a0 a1 := by
  unfold pureOf arun
  rw [if_pos (show [a0, a1].length ≤ Go.Proofs.Try.f115.ntmps from (by decide +kernel : 2 ≤ Go.Proofs.Try.f115.ntmps))]
  unfold afin
  rw [show acode Go.Proofs.Try.prog CC (draws Go.Proofs.Try.prog CC) K code (args0 [a0, a1]) AHeap.empty = body emit_at_ref.spec (args0 [a0, a1]) AHeap.empty from body_eq emit_at_ref.spec _ _]
  kernel_rfl
theorem sound : Sound Go.Proofs.Try.prog 115 (.pure false spec) := by
  refine (sound_pure CS Mixed (draws _ _) K hf hb hok callable).less fun args r h => ?_
  unfold spec at h
  split at h
  · rw [run_eq]; exact h
  · cases h
end emit_get
namespace emit_alu
noncomputable def code : Code := match Go.Proofs.Try.f159.body with | some c => c | none => .skip
def K : Nat → List Nat
  | 0 => [0, 1, 2, 6]
  | 1 => [6]
  | _ => []
noncomputable def CC : Tab := C
theorem CS : CC.Sound Go.Proofs.Try.prog := Tab.Sound.none
theorem body_eq (fr : AFr) (H : AHeap) : acode Go.Proofs.Try.prog C (draws Go.Proofs.Try.prog C) K code fr H = body fr H := by kernel_rfl
theorem callable : Callable Go.Proofs.Try.prog 159 := fun args w => Go.Proofs.Try.call159 args w
theorem hf : Go.Proofs.Try.prog.funcs[159]? = some Go.Proofs.Try.f159 := Go.Proofs.Try.func159
theorem hb : Go.Proofs.Try.f159.body = some code := by kernel_rfl
theorem hok : codeOk Go.Proofs.Try.f159.ntmps code = true := by kernel_rfl
theorem run_eq (a0 a1 a2 : AV) : pureOf Go.Proofs.Try.prog CC (draws Go.Proofs.Try.prog CC) K Go.Proofs.Try.f159 code [a0, a1, a2] = emit_alu a0 a1 a2 := by
  unfold pureOf arun
  rw [if_pos (show [a0, a1, a2].length ≤ Go.Proofs.Try.f159.ntmps from (by decide +kernel : 3 ≤ Go.Proofs.Try.f159.ntmps))]
  unfold afin
  rw [show acode Go.Proofs.Try.prog CC (draws Go.Proofs.Try.prog CC) K code (args0 [a0, a1, a2]) AHeap.empty = body (args0 [a0, a1, a2]) AHeap.empty from body_eq _ _]
  kernel_rfl
theorem sound : Sound Go.Proofs.Try.prog 159 (.pure false spec) := by
  refine (sound_pure CS Mixed (draws _ _) K hf hb hok callable).less fun args r h => ?_
  unfold spec at h
  split at h
  · rw [run_eq]; exact h
  · cases h
end emit_alu
namespace emit_constant
noncomputable def code : Code := match Go.Proofs.Try.f160.body with | some c => c | none => .skip
def K : Nat → List Nat
  | 0 => [0]
  | 1 => [0, 3]
  | 2 => [0, 3, 4]
  | 3 => [0, 3, 4, 7]
  | 5 => [0, 3, 4, 5]
  | 6 => [0, 3, 4, 5, 15]
  | 7 => [0, 3, 4]
  | 8 => [0, 3, 4, 5, 25]
  | 9 => [0, 3, 4]
  | 4 => [0, 3, 4]
  | 10 => [2]
  | _ => []
noncomputable def CC : Tab := C emit_left.spec emit_add.spec emit_mov.spec
theorem CS : CC.Sound Go.Proofs.Try.prog := (((Tab.Sound.none.add emit_left.sound).add emit_add.sound).add emit_mov.sound)
theorem body_eq (s0 s1 s2 : SpecP) (fr : AFr) (H : AHeap) : acode Go.Proofs.Try.prog (C s0 s1 s2) (draws Go.Proofs.Try.prog (C s0 s1 s2)) K code fr H = body s0 s1 s2 fr H := by kernel_rfl
theorem callable : Callable Go.Proofs.Try.prog 160 := fun args w => Go.Proofs.Try.call160 args w
theorem hf : Go.Proofs.Try.prog.funcs[160]? = some Go.Proofs.Try.f160 := Go.Proofs.Try.func160
theorem hb : Go.Proofs.Try.f160.body = some code := by kernel_rfl
theorem hok : codeOk Go.Proofs.Try.f160.ntmps code = true := by kernel_rfl
theorem run_eq (a0 : AV) : pureOf Go.Proofs.Try.prog CC (draws Go.Proofs.Try.prog CC) K Go.Proofs.Try.f160 code [a0] = emit_constant a0 := by
  unfold pureOf arun
  rw [if_pos (show [a0].length ≤ Go.Proofs.Try.f160.ntmps from (by decide +kernel : 1 ≤ Go.Proofs.Try.f160.ntmps))]
  unfold afin
  rw [show acode Go.Proofs.Try.prog CC (draws Go.Proofs.Try.prog CC) K code (args0 [a0]) AHeap.empty = body emit_left.spec emit_add.spec emit_mov.spec (args0 [a0]) AHeap.empty from body_eq emit_left.spec emit_add.spec emit_mov.spec _ _]
  kernel_rfl
theorem sound : Sound Go.Proofs.Try.prog 160 (.pure false spec) := by
  refine (sound_pure CS Mixed (draws _ _) K hf hb hok callable).less fun args r h => ?_
  unfold spec at h
  split at h
  · rw [run_eq]; exact h
  · cases h
end emit_constant
namespace emit_does
noncomputable def code : Code := match Go.Proofs.Try.f117.body with | some c => c | none => .skip
def K : Nat → List Nat
  | 0 => [1]
  | 1 => [1, 4]
  | 2 => [1, 4, 5]
  | 3 => [2]
  | 4 => [1, 4, 9]
  | 5 => [2]
  | 6 => [1, 4, 13]
  | 7 => [2]
  | 8 => [1, 4, 17]
  | 9 => [2]
  | 10 => [1, 4, 24]
  | 11 => [1, 28]
  | 12 => [2]
  | 13 => [2]
  | 14 => [1, 4, 36]
  | 15 => [2]
  | 16 => [1, 4, 46]
  | 17 => [2]
  | 18 => [51]
  | 19 => [2]
  | 20 => [2]
  | _ => []
noncomputable def CC : Tab := C emit_alu.spec emit_left.spec emit_mov.spec emit_constant.spec
theorem CS : CC.Sound Go.Proofs.Try.prog := ((((Tab.Sound.none.add emit_alu.sound).add emit_left.sound).add emit_mov.sound).add emit_constant.sound)
theorem body_eq (s0 s1 s2 s3 : SpecP) (fr : AFr) (H : AHeap) : acode Go.Proofs.Try.prog (C s0 s1 s2 s3) (draws Go.Proofs.Try.prog (C s0 s1 s2 s3)) K code fr H = body s0 s1 s2 s3 fr H := by kernel_rfl
theorem callable : Callable Go.Proofs.Try.prog 117 := fun args w => Go.Proofs.Try.call117 args w
theorem hf : Go.Proofs.Try.prog.funcs[117]? = some Go.Proofs.Try.f117 := Go.Proofs.Try.func117
theorem hb : Go.Proofs.Try.f117.body = some code := by kernel_rfl
theorem hok : codeOk Go.Proofs.Try.f117.ntmps code = true := by kernel_rfl
theorem run_eq (a0 : AV) : pureOf Go.Proofs.Try.prog CC (draws Go.Proofs.Try.prog CC) K Go.Proofs.Try.f117 code [a0] = emit_does a0 := by
  unfold pureOf arun
  rw [if_pos (show [a0].length ≤ Go.Proofs.Try.f117.ntmps from (by decide +kernel : 1 ≤ Go.Proofs.Try.f117.ntmps))]
  unfold afin
  rw [show acode Go.Proofs.Try.prog CC (draws Go.Proofs.Try.prog CC) K code (args0 [a0]) AHeap.empty = body emit_alu.spec emit_left.spec emit_mov.spec emit_constant.spec (args0 [a0]) AHeap.empty from body_eq emit_alu.spec emit_left.spec emit_mov.spec emit_constant.spec _ _]
  kernel_rfl
theorem sound : Sound Go.Proofs.Try.prog 117 (.pure false spec) := by
  refine (sound_pure CS Mixed (draws _ _) K hf hb hok callable).less fun args r h => ?_
  unfold spec at h
  split at h
  · rw [run_eq]; exact h
  · cases h
end emit_does
namespace emit_put
noncomputable def code : Code := match Go.Proofs.Try.f118.body with | some c => c | none => .skip
def K : Nat → List Nat
  | 0 => [0]
  | 1 => [2]
  | _ => []
noncomputable def CC : Tab := C emit_at_ref.spec
theorem CS : CC.Sound Go.Proofs.Try.prog := (Tab.Sound.none.add emit_at_ref.sound)
theorem body_eq (s0 : SpecM) (fr : AFr) (H : AHeap) : acode Go.Proofs.Try.prog (C s0) (draws Go.Proofs.Try.prog (C s0)) K code fr H = body s0 fr H := by kernel_rfl
theorem callable : Callable Go.Proofs.Try.prog 118 := fun args w => Go.Proofs.Try.call118 args w
theorem hf : Go.Proofs.Try.prog.funcs[118]? = some Go.Proofs.Try.f118 := Go.Proofs.Try.func118
theorem hb : Go.Proofs.Try.f118.body = some code := by kernel_rfl
theorem hok : codeOk Go.Proofs.Try.f118.ntmps code = true := by kernel_rfl
theorem run_eq (a0 : AV) : pureOf Go.Proofs.Try.prog CC (draws Go.Proofs.Try.prog CC) K Go.Proofs.Try.f118 code [a0] = emit_put a0 := by
  unfold pureOf arun
  rw [if_pos (show [a0].length ≤ Go.Proofs.Try.f118.ntmps from (by decide +kernel : 1 ≤ Go.Proofs.Try.f118.ntmps))]
  unfold afin
  rw [show acode Go.Proofs.Try.prog CC (draws Go.Proofs.Try.prog CC) K code (args0 [a0]) AHeap.empty = body emit_at_ref.spec (args0 [a0]) AHeap.empty from body_eq emit_at_ref.spec _ _]
  kernel_rfl
theorem sound : Sound Go.Proofs.Try.prog 118 (.pure false spec) := by
  refine (sound_pure CS Mixed (draws _ _) K hf hb hok callable).less fun args r h => ?_
  unfold spec at h
  split at h
  · rw [run_eq]; exact h
  · cases h
end emit_put
namespace slices_Grow_bauta_api_Ins
noncomputable def code : Code := match Go.Proofs.Try.f158.body with | some c => c | none => .skip
def K : Nat → List Nat
  | 0 => [0, 1]
  | 1 => [0, 1, 6]
  | 2 => [0, 1]
  | 3 => [0, 1]
  | 4 => [0, 1, 16]
  | 5 => [0]
  | 6 => [4]
  | _ => []
noncomputable def CC : Tab := C
theorem CS : CC.Sound Go.Proofs.Try.prog := Tab.Sound.none
theorem body_eq (fr : AFr) (H : AHeap) : acode Go.Proofs.Try.prog C (draws Go.Proofs.Try.prog C) K code fr H = body fr H := by kernel_rfl
theorem callable : Callable Go.Proofs.Try.prog 158 := fun args w => Go.Proofs.Try.call158 args w
theorem hf : Go.Proofs.Try.prog.funcs[158]? = some Go.Proofs.Try.f158 := Go.Proofs.Try.func158
theorem hb : Go.Proofs.Try.f158.body = some code := by kernel_rfl
theorem hok : codeOk Go.Proofs.Try.f158.ntmps code = true := by kernel_rfl
theorem run_eq (a0 a1 : AV) (H : AHeap) : refOf Go.Proofs.Try.prog CC (draws Go.Proofs.Try.prog CC) K Go.Proofs.Try.f158 code [a0, a1] H = slices_Grow_bauta_api_Ins a0 a1 H := by
  unfold refOf arun
  rw [if_pos (show [a0, a1].length ≤ Go.Proofs.Try.f158.ntmps from (by decide +kernel : 2 ≤ Go.Proofs.Try.f158.ntmps))]
  unfold afin
  rw [show acode Go.Proofs.Try.prog CC (draws Go.Proofs.Try.prog CC) K code (args0 [a0, a1]) H = body (args0 [a0, a1]) H from body_eq _ _]
  kernel_rfl
theorem sound : Sound Go.Proofs.Try.prog 158 (.ref [false, false] spec) := by
  refine (sound_ref CS Mixed (draws _ _) K hf hb hok callable [false, false]).lessR fun args H r h => ?_
  unfold spec at h
  split at h
  · rw [run_eq]; exact h
  · cases h
end slices_Grow_bauta_api_Ins
namespace slices_Concat_bauta_api_Ins
noncomputable def code : Code := match Go.Proofs.Try.f116.body with | some c => c | none => .skip
def K : Nat → List Nat
  | 0 => [0]
  | 1 => [0, 3]
  | 2 => [0, 3, 9, 10, 11]
  | 3 => [0, 3, 9, 10, 11, 12]
  | 4 => [0, 3, 5, 9, 10, 11]
  | 5 => [0, 3, 9, 10, 11]
  | 6 => [0, 3, 9, 10, 11, 20]
  | 7 => [0, 3, 9, 10, 11]
  | 8 => [0, 3, 9, 10, 11]
  | 9 => [0, 6]
  | 10 => [6, 25, 26, 27]
  | 11 => [6, 25, 26, 27, 28]
  | 12 => [6, 8, 25, 26, 27]
  | 13 => [6, 25, 26, 27]
  | 14 => [6, 25, 26, 27]
  | 15 => [2]
  | _ => []
noncomputable def CC : Tab := C slices_Grow_bauta_api_Ins.spec
theorem CS : CC.Sound Go.Proofs.Try.prog := (Tab.Sound.none.add slices_Grow_bauta_api_Ins.sound)
theorem body_eq (s0 : SpecM) (fr : AFr) (H : AHeap) : acode Go.Proofs.Try.prog (C s0) (draws Go.Proofs.Try.prog (C s0)) K code fr H = body s0 fr H := by kernel_rfl
theorem callable : Callable Go.Proofs.Try.prog 116 := fun args w => Go.Proofs.Try.call116 args w
theorem hf : Go.Proofs.Try.prog.funcs[116]? = some Go.Proofs.Try.f116 := Go.Proofs.Try.func116
theorem hb : Go.Proofs.Try.f116.body = some code := by kernel_rfl
theorem hok : codeOk Go.Proofs.Try.f116.ntmps code = true := by kernel_rfl
theorem run_eq (a0 : AV) (H : AHeap) : refOf Go.Proofs.Try.prog CC (draws Go.Proofs.Try.prog CC) K Go.Proofs.Try.f116 code [a0] H = slices_Concat_bauta_api_Ins a0 H := by
  unfold refOf arun
  rw [if_pos (show [a0].length ≤ Go.Proofs.Try.f116.ntmps from (by decide +kernel : 1 ≤ Go.Proofs.Try.f116.ntmps))]
  unfold afin
  rw [show acode Go.Proofs.Try.prog CC (draws Go.Proofs.Try.prog CC) K code (args0 [a0]) H = body slices_Grow_bauta_api_Ins.spec (args0 [a0]) H from body_eq slices_Grow_bauta_api_Ins.spec _ _]
  kernel_rfl
theorem sound : Sound Go.Proofs.Try.prog 116 (.ref [false] spec) := by
  refine (sound_ref CS Mixed (draws _ _) K hf hb hok callable [false]).lessR fun args H r h => ?_
  unfold spec at h
  split at h
  · rw [run_eq]; exact h
  · cases h
end slices_Concat_bauta_api_Ins
namespace emit_step
noncomputable def code : Code := match Go.Proofs.Try.f73.body with | some c => c | none => .skip
def K : Nat → List Nat
  | 0 => [1, 2, 3]
  | 1 => [1, 2, 3, 7]
  | 2 => [1, 2, 3, 7, 14]
  | 3 => [1, 2, 3, 7]
  | 4 => [1, 3, 7, 19, 20, 21]
  | 5 => [1, 3, 7, 19, 20, 21, 22]
  | 6 => [1, 3, 7, 8, 9, 19, 20, 21]
  | 7 => [1, 3, 7, 19, 20, 21]
  | 8 => [1, 3, 7, 19, 20, 21]
  | 9 => [6]
  | _ => []
noncomputable def CC : Tab := C emit_mov.spec emit_get.spec emit_does.spec emit_put.spec slices_Concat_bauta_api_Ins.spec
theorem CS : CC.Sound Go.Proofs.Try.prog := (((((Tab.Sound.none.add emit_mov.sound).add emit_get.sound).add emit_does.sound).add emit_put.sound).add slices_Concat_bauta_api_Ins.sound)
theorem body_eq (s0 s1 s2 s3 : SpecP) (s4 : SpecM) (fr : AFr) (H : AHeap) : acode Go.Proofs.Try.prog (C s0 s1 s2 s3 s4) (draws Go.Proofs.Try.prog (C s0 s1 s2 s3 s4)) K code fr H = body s0 s1 s2 s3 s4 fr H := by kernel_rfl
theorem callable : Callable Go.Proofs.Try.prog 73 := fun args w => Go.Proofs.Try.call73 args w
theorem hf : Go.Proofs.Try.prog.funcs[73]? = some Go.Proofs.Try.f73 := Go.Proofs.Try.func73
theorem hb : Go.Proofs.Try.f73.body = some code := by kernel_rfl
theorem hok : codeOk Go.Proofs.Try.f73.ntmps code = true := by kernel_rfl
theorem run_eq (a0 a1 a2 : AV) : pureOf Go.Proofs.Try.prog CC (draws Go.Proofs.Try.prog CC) K Go.Proofs.Try.f73 code [a0, a1, a2] = emit_step a0 a1 a2 := by
  unfold pureOf arun
  rw [if_pos (show [a0, a1, a2].length ≤ Go.Proofs.Try.f73.ntmps from (by decide +kernel : 3 ≤ Go.Proofs.Try.f73.ntmps))]
  unfold afin
  rw [show acode Go.Proofs.Try.prog CC (draws Go.Proofs.Try.prog CC) K code (args0 [a0, a1, a2]) AHeap.empty = body emit_mov.spec emit_get.spec emit_does.spec emit_put.spec slices_Concat_bauta_api_Ins.spec (args0 [a0, a1, a2]) AHeap.empty from body_eq emit_mov.spec emit_get.spec emit_does.spec emit_put.spec slices_Concat_bauta_api_Ins.spec _ _]
  kernel_rfl
theorem sound : Sound Go.Proofs.Try.prog 73 (.pure false spec) := by
  refine (sound_pure CS Mixed (draws _ _) K hf hb hok callable).less fun args r h => ?_
  unfold spec at h
  split at h
  · rw [run_eq]; exact h
  · cases h
end emit_step
namespace emit_Step
noncomputable def code : Code := match Go.Proofs.Try.f22.body with | some c => c | none => .skip
def K : Nat → List Nat
  | 0 => [1, 2, 3]
  | 1 => [1, 2, 3]
  | 2 => [1, 2, 3, 7]
  | 3 => [1, 2, 3, 32]
  | 4 => [6]
  | 5 => [6]
  | _ => []
noncomputable def CC : Tab := C isw_Can.spec emit_takes.spec emit_slot.spec slices_ContainsFunc_int.spec emit_step.spec
theorem CS : CC.Sound Go.Proofs.Try.prog := (((((Tab.Sound.none.add isw_Can.sound).add emit_takes.sound).add emit_slot.sound).add slices_ContainsFunc_int.sound).add emit_step.sound)
theorem body_eq (s0 s1 s2 : SpecP) (s3 : SpecM) (s4 : SpecP) (fr : AFr) (H : AHeap) : acode Go.Proofs.Try.prog (C s0 s1 s2 s3 s4) (draws Go.Proofs.Try.prog (C s0 s1 s2 s3 s4)) K code fr H = body s0 s1 s2 s3 s4 fr H := by kernel_rfl
theorem callable : Callable Go.Proofs.Try.prog 22 := fun args w => Go.Proofs.Try.call22 args w
theorem hf : Go.Proofs.Try.prog.funcs[22]? = some Go.Proofs.Try.f22 := Go.Proofs.Try.func22
theorem hb : Go.Proofs.Try.f22.body = some code := by kernel_rfl
theorem hok : codeOk Go.Proofs.Try.f22.ntmps code = true := by kernel_rfl
theorem run_eq (a0 a1 a2 : AV) : pureOf Go.Proofs.Try.prog CC (draws Go.Proofs.Try.prog CC) K Go.Proofs.Try.f22 code [a0, a1, a2] = emit_Step a0 a1 a2 := by
  unfold pureOf arun
  rw [if_pos (show [a0, a1, a2].length ≤ Go.Proofs.Try.f22.ntmps from (by decide +kernel : 3 ≤ Go.Proofs.Try.f22.ntmps))]
  unfold afin
  rw [show acode Go.Proofs.Try.prog CC (draws Go.Proofs.Try.prog CC) K code (args0 [a0, a1, a2]) AHeap.empty = body isw_Can.spec emit_takes.spec emit_slot.spec slices_ContainsFunc_int.spec emit_step.spec (args0 [a0, a1, a2]) AHeap.empty from body_eq isw_Can.spec emit_takes.spec emit_slot.spec slices_ContainsFunc_int.spec emit_step.spec _ _]
  kernel_rfl
theorem sound : Sound Go.Proofs.Try.prog 22 (.pure false spec) := by
  refine (sound_pure CS Mixed (draws _ _) K hf hb hok callable).less fun args r h => ?_
  unfold spec at h
  split at h
  · rw [run_eq]; exact h
  · cases h
end emit_Step
namespace emit_Begin
noncomputable def code : Code := match Go.Proofs.Try.f29.body with | some c => c | none => .skip
def K : Nat → List Nat
  | 0 => []
  | 1 => [0]
  | _ => []
noncomputable def CC : Tab := C emit_mov.spec emit_left.spec
theorem CS : CC.Sound Go.Proofs.Try.prog := ((Tab.Sound.none.add emit_mov.sound).add emit_left.sound)
theorem body_eq (s0 s1 : SpecP) (fr : AFr) (H : AHeap) : acode Go.Proofs.Try.prog (C s0 s1) (draws Go.Proofs.Try.prog (C s0 s1)) K code fr H = body s0 s1 fr H := by kernel_rfl
theorem callable : Callable Go.Proofs.Try.prog 29 := fun args w => Go.Proofs.Try.call29 args w
theorem hf : Go.Proofs.Try.prog.funcs[29]? = some Go.Proofs.Try.f29 := Go.Proofs.Try.func29
theorem hb : Go.Proofs.Try.f29.body = some code := by kernel_rfl
theorem hok : codeOk Go.Proofs.Try.f29.ntmps code = true := by kernel_rfl
theorem run_eq : pureOf Go.Proofs.Try.prog CC (draws Go.Proofs.Try.prog CC) K Go.Proofs.Try.f29 code [] = emit_Begin := by
  unfold pureOf arun
  rw [if_pos (show [].length ≤ Go.Proofs.Try.f29.ntmps from (by decide +kernel : 0 ≤ Go.Proofs.Try.f29.ntmps))]
  unfold afin
  rw [show acode Go.Proofs.Try.prog CC (draws Go.Proofs.Try.prog CC) K code (args0 []) AHeap.empty = body emit_mov.spec emit_left.spec (args0 []) AHeap.empty from body_eq emit_mov.spec emit_left.spec _ _]
  kernel_rfl
theorem sound : Sound Go.Proofs.Try.prog 29 (.pure false spec) := by
  refine (sound_pure CS Mixed (draws _ _) K hf hb hok callable).less fun args r h => ?_
  unfold spec at h
  split at h
  · rw [run_eq]; exact h
  · cases h
end emit_Begin
namespace emit_halves
noncomputable def code : Code := match Go.Proofs.Try.f81.body with | some c => c | none => .skip
def K : Nat → List Nat
  | 0 => [0, 1]
  | 1 => [0, 9, 10, 11]
  | 2 => [0, 9, 10, 11, 12]
  | 3 => [0, 6, 9, 10, 11]
  | 4 => [0, 7, 9, 10, 11]
  | 5 => [0, 9, 10, 11]
  | 6 => [0, 9, 10, 11]
  | 7 => [4]
  | _ => []
noncomputable def CC : Tab := C thumb_Put.spec
theorem CS : CC.Sound Go.Proofs.Try.prog := (Tab.Sound.none.add thumb_Put.sound)
theorem body_eq (s0 : SpecP) (fr : AFr) (H : AHeap) : acode Go.Proofs.Try.prog (C s0) (draws Go.Proofs.Try.prog (C s0)) K code fr H = body s0 fr H := by kernel_rfl
theorem callable : Callable Go.Proofs.Try.prog 81 := fun args w => Go.Proofs.Try.call81 args w
theorem hf : Go.Proofs.Try.prog.funcs[81]? = some Go.Proofs.Try.f81 := Go.Proofs.Try.func81
theorem hb : Go.Proofs.Try.f81.body = some code := by kernel_rfl
theorem hok : codeOk Go.Proofs.Try.f81.ntmps code = true := by kernel_rfl
theorem run_eq (a0 a1 : AV) (H : AHeap) : refOf Go.Proofs.Try.prog CC (draws Go.Proofs.Try.prog CC) K Go.Proofs.Try.f81 code [a0, a1] H = emit_halves a0 a1 H := by
  unfold refOf arun
  rw [if_pos (show [a0, a1].length ≤ Go.Proofs.Try.f81.ntmps from (by decide +kernel : 2 ≤ Go.Proofs.Try.f81.ntmps))]
  unfold afin
  rw [show acode Go.Proofs.Try.prog CC (draws Go.Proofs.Try.prog CC) K code (args0 [a0, a1]) H = body thumb_Put.spec (args0 [a0, a1]) H from body_eq thumb_Put.spec _ _]
  kernel_rfl
theorem sound : Sound Go.Proofs.Try.prog 81 (.ref [false, false] spec) := by
  refine (sound_ref CS Mixed (draws _ _) K hf hb hok callable [false, false]).lessR fun args H r h => ?_
  unfold spec at h
  split at h
  · rw [run_eq]; exact h
  · cases h
end emit_halves
namespace emit_Code
noncomputable def code : Code := match Go.Proofs.Try.f32.body with | some c => c | none => .skip
def K : Nat → List Nat
  | 0 => [1, 2]
  | 1 => [1, 2, 29]
  | 2 => [4, 5]
  | 3 => [1, 2, 6]
  | 4 => [1, 2, 6, 33, 34, 35]
  | 5 => [1, 2, 6, 33, 34, 35, 36]
  | 6 => [1, 2, 6, 7, 8, 33, 34, 35]
  | 7 => [1, 2, 6, 7, 8, 9, 33, 34, 35]
  | 8 => [1, 2, 6, 7, 8, 9, 33, 34, 35, 44, 45]
  | 9 => [1, 2, 6, 7, 8, 9, 33, 34, 35, 44, 45, 46]
  | 10 => [1, 2, 6, 7, 8, 9, 10, 11, 33, 34, 35, 44, 45]
  | 11 => [1, 2, 6, 7, 8, 9, 11, 33, 34, 35, 44, 45, 53]
  | 12 => [1, 2, 6, 7, 8, 9, 33, 34, 35, 44, 45]
  | 13 => [1, 2, 6, 7, 8, 9, 33, 34, 35, 44, 45]
  | 14 => [1, 2, 6, 33, 34, 35]
  | 15 => [1, 2, 6, 33, 34, 35, 76]
  | 16 => [4, 5]
  | 17 => [1, 2, 6, 33, 34, 35]
  | 18 => [4, 5]
  | _ => []
noncomputable def CC : Tab := C isw_Can.spec slices_ContainsFunc_int.spec emit_Begin.spec emit_halves.spec emit_takes.spec emit_step.spec
theorem CS : CC.Sound Go.Proofs.Try.prog := ((((((Tab.Sound.none.add isw_Can.sound).add slices_ContainsFunc_int.sound).add emit_Begin.sound).add emit_halves.sound).add emit_takes.sound).add emit_step.sound)
theorem body_eq (s0 : SpecP) (s1 : SpecM) (s2 : SpecP) (s3 : SpecM) (s4 s5 : SpecP) (fr : AFr) (H : AHeap) : acode Go.Proofs.Try.prog (C s0 s1 s2 s3 s4 s5) (draws Go.Proofs.Try.prog (C s0 s1 s2 s3 s4 s5)) K code fr H = body s0 s1 s2 s3 s4 s5 fr H := by kernel_rfl
theorem callable : Callable Go.Proofs.Try.prog 32 := fun args w => Go.Proofs.Try.call32 args w
theorem hf : Go.Proofs.Try.prog.funcs[32]? = some Go.Proofs.Try.f32 := Go.Proofs.Try.func32
theorem hb : Go.Proofs.Try.f32.body = some code := by kernel_rfl
theorem hok : codeOk Go.Proofs.Try.f32.ntmps code = true := by kernel_rfl
theorem run_eq (a0 a1 : AV) : pureOf Go.Proofs.Try.prog CC (draws Go.Proofs.Try.prog CC) K Go.Proofs.Try.f32 code [a0, a1] = emit_Code a0 a1 := by
  unfold pureOf arun
  rw [if_pos (show [a0, a1].length ≤ Go.Proofs.Try.f32.ntmps from (by decide +kernel : 2 ≤ Go.Proofs.Try.f32.ntmps))]
  unfold afin
  rw [show acode Go.Proofs.Try.prog CC (draws Go.Proofs.Try.prog CC) K code (args0 [a0, a1]) AHeap.empty = body isw_Can.spec slices_ContainsFunc_int.spec emit_Begin.spec emit_halves.spec emit_takes.spec emit_step.spec (args0 [a0, a1]) AHeap.empty from body_eq isw_Can.spec slices_ContainsFunc_int.spec emit_Begin.spec emit_halves.spec emit_takes.spec emit_step.spec _ _]
  kernel_rfl
theorem sound : Sound Go.Proofs.Try.prog 32 (.pure false spec) := by
  refine (sound_pure CS Mixed (draws _ _) K hf hb hok callable).less fun args r h => ?_
  unfold spec at h
  split at h
  · rw [run_eq]; exact h
  · cases h
end emit_Code
end Go.Abs
