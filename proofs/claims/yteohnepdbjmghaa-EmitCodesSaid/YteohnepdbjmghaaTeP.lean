/-
  That the program's functions are these. Printed by gen.py.
-/
import Derived.Test.YteohnepdbjmghaaTeF
import Derived.Test.YteohnepdbjmghaaLoP
set_option linter.unusedSimpArgs false
set_option linter.unusedVariables false
namespace Go.Abs
namespace ref04_Num
noncomputable def code : Code := match Go.Proofs.Try.f76.body with | some c => c | none => .skip
def K : Nat → List Nat
  | 0 => [0]
  | 1 => [0, 4]
  | 2 => [2]
  | 3 => [0, 10]
  | 4 => [2]
  | 5 => [2]
  | _ => []
noncomputable def CC (k : Nat) : Tab := C (fuel k)
theorem CS (k : Nat) (h : Sound Go.Proofs.Try.prog 76 (.pure false (fuel k))) : (CC k).Sound Go.Proofs.Try.prog := (Tab.Sound.none.add h)
theorem body_eq (s0 : SpecP) (fr : AFr) (H : AHeap) : acode Go.Proofs.Try.prog (C s0) (draws Go.Proofs.Try.prog (C s0)) K code fr H = body s0 fr H := by kernel_rfl
theorem callable : Callable Go.Proofs.Try.prog 76 := fun args w => Go.Proofs.Try.call76 args w
theorem hf : Go.Proofs.Try.prog.funcs[76]? = some Go.Proofs.Try.f76 := Go.Proofs.Try.func76
theorem hb : Go.Proofs.Try.f76.body = some code := by kernel_rfl
theorem hok : codeOk Go.Proofs.Try.f76.ntmps code = true := by kernel_rfl
theorem run_eq (k : Nat) (a0 : AV) : pureOf Go.Proofs.Try.prog (CC k) (draws Go.Proofs.Try.prog (CC k)) K Go.Proofs.Try.f76 code [a0] = step (fuel k) [a0] := by
  unfold pureOf arun
  rw [if_pos (show [a0].length ≤ Go.Proofs.Try.f76.ntmps from (by decide +kernel : 1 ≤ Go.Proofs.Try.f76.ntmps))]
  unfold afin
  rw [show acode Go.Proofs.Try.prog (CC k) (draws Go.Proofs.Try.prog (CC k)) K code (args0 [a0]) AHeap.empty = body (fuel k) (args0 [a0]) AHeap.empty from body_eq (fuel k) _ _]
  kernel_rfl
theorem sound_fuel : ∀ k, Sound Go.Proofs.Try.prog 76 (.pure false (fuel k))
  | 0 => ⟨callable, fun _ _ h => by cases h⟩
  | k + 1 => (sound_pure (CS k (sound_fuel k)) Mixed (draws _ _) K hf hb hok callable).less fun args r h => by
    change step (fuel k) args = some r at h
    unfold step at h
    split at h
    · rw [run_eq]; exact h
    · cases h
theorem sound : Sound Go.Proofs.Try.prog 76 (.pure false spec) := sound_fuel 64
end ref04_Num
namespace ref04_reg
noncomputable def code : Code := match Go.Proofs.Try.f119.body with | some c => c | none => .skip
def K : Nat → List Nat
  | 0 => [0]
  | 1 => [2]
  | _ => []
noncomputable def CC : Tab := C ref04_Num.spec
theorem CS : CC.Sound Go.Proofs.Try.prog := (Tab.Sound.none.add ref04_Num.sound)
theorem body_eq (s0 : SpecP) (fr : AFr) (H : AHeap) : acode Go.Proofs.Try.prog (C s0) (draws Go.Proofs.Try.prog (C s0)) K code fr H = body s0 fr H := by kernel_rfl
theorem callable : Callable Go.Proofs.Try.prog 119 := fun args w => Go.Proofs.Try.call119 args w
theorem hf : Go.Proofs.Try.prog.funcs[119]? = some Go.Proofs.Try.f119 := Go.Proofs.Try.func119
theorem hb : Go.Proofs.Try.f119.body = some code := by kernel_rfl
theorem hok : codeOk Go.Proofs.Try.f119.ntmps code = true := by kernel_rfl
theorem run_eq (a0 : AV) : pureOf Go.Proofs.Try.prog CC (draws Go.Proofs.Try.prog CC) K Go.Proofs.Try.f119 code [a0] = ref04_reg a0 := by
  unfold pureOf arun
  rw [if_pos (show [a0].length ≤ Go.Proofs.Try.f119.ntmps from (by decide +kernel : 1 ≤ Go.Proofs.Try.f119.ntmps))]
  unfold afin
  rw [show acode Go.Proofs.Try.prog CC (draws Go.Proofs.Try.prog CC) K code (args0 [a0]) AHeap.empty = body ref04_Num.spec (args0 [a0]) AHeap.empty from body_eq ref04_Num.spec _ _]
  kernel_rfl
theorem sound : Sound Go.Proofs.Try.prog 119 (.pure false spec) := by
  refine (sound_pure CS Mixed (draws _ _) K hf hb hok callable).less fun args r h => ?_
  unfold spec at h
  split at h
  · rw [run_eq]; exact h
  · cases h
end ref04_reg
namespace ref04_imm
noncomputable def code : Code := match Go.Proofs.Try.f120.body with | some c => c | none => .skip
def K : Nat → List Nat
  | 0 => [0]
  | 1 => [2]
  | _ => []
noncomputable def CC : Tab := C ref04_Num.spec
theorem CS : CC.Sound Go.Proofs.Try.prog := (Tab.Sound.none.add ref04_Num.sound)
theorem body_eq (s0 : SpecP) (fr : AFr) (H : AHeap) : acode Go.Proofs.Try.prog (C s0) (draws Go.Proofs.Try.prog (C s0)) K code fr H = body s0 fr H := by kernel_rfl
theorem callable : Callable Go.Proofs.Try.prog 120 := fun args w => Go.Proofs.Try.call120 args w
theorem hf : Go.Proofs.Try.prog.funcs[120]? = some Go.Proofs.Try.f120 := Go.Proofs.Try.func120
theorem hb : Go.Proofs.Try.f120.body = some code := by kernel_rfl
theorem hok : codeOk Go.Proofs.Try.f120.ntmps code = true := by kernel_rfl
theorem run_eq (a0 : AV) : pureOf Go.Proofs.Try.prog CC (draws Go.Proofs.Try.prog CC) K Go.Proofs.Try.f120 code [a0] = ref04_imm a0 := by
  unfold pureOf arun
  rw [if_pos (show [a0].length ≤ Go.Proofs.Try.f120.ntmps from (by decide +kernel : 1 ≤ Go.Proofs.Try.f120.ntmps))]
  unfold afin
  rw [show acode Go.Proofs.Try.prog CC (draws Go.Proofs.Try.prog CC) K code (args0 [a0]) AHeap.empty = body ref04_Num.spec (args0 [a0]) AHeap.empty from body_eq ref04_Num.spec _ _]
  kernel_rfl
theorem sound : Sound Go.Proofs.Try.prog 120 (.pure false spec) := by
  refine (sound_pure CS Mixed (draws _ _) K hf hb hok callable).less fun args r h => ?_
  unfold spec at h
  split at h
  · rw [run_eq]; exact h
  · cases h
end ref04_imm
namespace ref04_Show
noncomputable def code : Code := match Go.Proofs.Try.f75.body with | some c => c | none => .skip
def K : Nat → List Nat
  | 0 => [1]
  | 1 => [1, 8]
  | 2 => [2, 3]
  | 3 => [1, 4]
  | 4 => [1, 4, 5]
  | 5 => [1, 4, 5, 15]
  | 6 => [2, 3]
  | 7 => [1, 4, 5, 28]
  | 8 => [2, 3]
  | 9 => [1, 4, 5, 47]
  | 10 => [2, 3]
  | 11 => [1, 4, 5, 66]
  | 12 => [2, 3]
  | 13 => [1, 4, 5, 85]
  | 14 => [2, 3]
  | 15 => [1, 4, 5, 100]
  | 16 => [2, 3]
  | 17 => [1, 4, 5, 122]
  | 18 => [2, 3]
  | 19 => [1, 4, 5, 143]
  | 20 => [2, 3]
  | 21 => [1, 5, 155]
  | 22 => [2, 3]
  | 23 => [1, 5, 163]
  | 24 => [2, 3]
  | 25 => [1, 177]
  | 26 => [2, 3]
  | 27 => [2, 3]
  | _ => []
noncomputable def CC : Tab := C ref02_Can.spec ref04_reg.spec ref04_imm.spec
theorem CS : CC.Sound Go.Proofs.Try.prog := (((Tab.Sound.none.add ref02_Can.sound).add ref04_reg.sound).add ref04_imm.sound)
theorem body_eq (s0 s1 s2 : SpecP) (fr : AFr) (H : AHeap) : acode Go.Proofs.Try.prog (C s0 s1 s2) (draws Go.Proofs.Try.prog (C s0 s1 s2)) K code fr H = body s0 s1 s2 fr H := by kernel_rfl
theorem callable : Callable Go.Proofs.Try.prog 75 := fun args w => Go.Proofs.Try.call75 args w
theorem hf : Go.Proofs.Try.prog.funcs[75]? = some Go.Proofs.Try.f75 := Go.Proofs.Try.func75
theorem hb : Go.Proofs.Try.f75.body = some code := by kernel_rfl
theorem hok : codeOk Go.Proofs.Try.f75.ntmps code = true := by kernel_rfl
theorem run_eq (a0 : AV) : pureOf Go.Proofs.Try.prog CC (draws Go.Proofs.Try.prog CC) K Go.Proofs.Try.f75 code [a0] = ref04_Show a0 := by
  unfold pureOf arun
  rw [if_pos (show [a0].length ≤ Go.Proofs.Try.f75.ntmps from (by decide +kernel : 1 ≤ Go.Proofs.Try.f75.ntmps))]
  unfold afin
  rw [show acode Go.Proofs.Try.prog CC (draws Go.Proofs.Try.prog CC) K code (args0 [a0]) AHeap.empty = body ref02_Can.spec ref04_reg.spec ref04_imm.spec (args0 [a0]) AHeap.empty from body_eq ref02_Can.spec ref04_reg.spec ref04_imm.spec _ _]
  kernel_rfl
theorem sound : Sound Go.Proofs.Try.prog 75 (.pure false spec) := by
  refine (sound_pure CS Mixed (draws _ _) K hf hb hok callable).less fun args r h => ?_
  unfold spec at h
  split at h
  · rw [run_eq]; exact h
  · cases h
end ref04_Show
namespace ref04_Line
noncomputable def code : Code := match Go.Proofs.Try.f35.body with | some c => c | none => .skip
def K : Nat → List Nat
  | 0 => [0]
  | 1 => [0, 3, 4]
  | 2 => [0, 3, 15]
  | 3 => [5]
  | 4 => [2]
  | 5 => [0, 7]
  | 6 => [0, 7, 8]
  | 7 => [0, 7, 8, 23]
  | 9 => [0, 7, 8]
  | 10 => [0, 7, 8]
  | 8 => [0, 7, 8]
  | 11 => [2]
  | _ => []
noncomputable def CC : Tab := C ref02_Take.spec ref04_Show.spec
theorem CS : CC.Sound Go.Proofs.Try.prog := ((Tab.Sound.none.add ref02_Take.sound).add ref04_Show.sound)
theorem body_eq (s0 s1 : SpecP) (fr : AFr) (H : AHeap) : acode Go.Proofs.Try.prog (C s0 s1) (draws Go.Proofs.Try.prog (C s0 s1)) K code fr H = body s0 s1 fr H := by kernel_rfl
theorem callable : Callable Go.Proofs.Try.prog 35 := fun args w => Go.Proofs.Try.call35 args w
theorem hf : Go.Proofs.Try.prog.funcs[35]? = some Go.Proofs.Try.f35 := Go.Proofs.Try.func35
theorem hb : Go.Proofs.Try.f35.body = some code := by kernel_rfl
theorem hok : codeOk Go.Proofs.Try.f35.ntmps code = true := by kernel_rfl
theorem run_eq (a0 : AV) : pureOf Go.Proofs.Try.prog CC (draws Go.Proofs.Try.prog CC) K Go.Proofs.Try.f35 code [a0] = ref04_Line a0 := by
  unfold pureOf arun
  rw [if_pos (show [a0].length ≤ Go.Proofs.Try.f35.ntmps from (by decide +kernel : 1 ≤ Go.Proofs.Try.f35.ntmps))]
  unfold afin
  rw [show acode Go.Proofs.Try.prog CC (draws Go.Proofs.Try.prog CC) K code (args0 [a0]) AHeap.empty = body ref02_Take.spec ref04_Show.spec (args0 [a0]) AHeap.empty from body_eq ref02_Take.spec ref04_Show.spec _ _]
  kernel_rfl
theorem sound : Sound Go.Proofs.Try.prog 35 (.pure false spec) := by
  refine (sound_pure CS Mixed (draws _ _) K hf hb hok callable).less fun args r h => ?_
  unfold spec at h
  split at h
  · rw [run_eq]; exact h
  · cases h
end ref04_Line
end Go.Abs
