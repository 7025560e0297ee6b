/-
  That the program's functions are these. Printed by gen.py.
-/
import Derived.Test.YteohnepdbjmghaaL25F
import Derived.Test.YteohnepdbjmghaaEmP
import Derived.Test.YteohnepdbjmghaaErP
import Derived.Test.YteohnepdbjmghaaIrP
import Derived.Test.YteohnepdbjmghaaTeP
import Derived.Test.YteohnepdbjmghaaIrF
import Derived.Test.YteohnepdbjmghaaLoF
import Derived.Test.YteohnepdbjmghaaLoP
set_option linter.unusedSimpArgs false
set_option linter.unusedVariables false
namespace Go.Abs
namespace law25_lives
noncomputable def code : Code := match Go.Proofs.Try.f24.body with | some c => c | none => .skip
def K : Nat → List Nat
  | 0 => []
  | 1 => [0]
  | _ => []
noncomputable def CC : Tab := C emit_Step.spec ref25_Same.spec
theorem CS : CC.Sound Go.Proofs.Try.prog := ((Tab.Sound.none.add emit_Step.sound).add ref25_Same.sound)
theorem body_eq (s0 s1 : SpecP) (fr : AFr) (H : AHeap) : acode Go.Proofs.Try.prog (C s0 s1) (draws Go.Proofs.Try.prog (C s0 s1)) K code fr H = body s0 s1 fr H := by kernel_rfl
theorem callable : Callable Go.Proofs.Try.prog 24 := fun args w => Go.Proofs.Try.call24 args w
theorem hf : Go.Proofs.Try.prog.funcs[24]? = some Go.Proofs.Try.f24 := Go.Proofs.Try.func24
theorem hb : Go.Proofs.Try.f24.body = some code := by kernel_rfl
theorem hok : codeOk Go.Proofs.Try.f24.ntmps code = true := by kernel_rfl
theorem run_eq : pureOf Go.Proofs.Try.prog CC (draws Go.Proofs.Try.prog CC) K Go.Proofs.Try.f24 code [] = law25_lives := by
  unfold pureOf arun
  rw [if_pos (show [].length ≤ Go.Proofs.Try.f24.ntmps from (by decide +kernel : 0 ≤ Go.Proofs.Try.f24.ntmps))]
  unfold afin
  rw [show acode Go.Proofs.Try.prog CC (draws Go.Proofs.Try.prog CC) K code (args0 []) AHeap.empty = body emit_Step.spec ref25_Same.spec (args0 []) AHeap.empty from body_eq emit_Step.spec ref25_Same.spec _ _]
  kernel_rfl
theorem sound : Sound Go.Proofs.Try.prog 24 (.pure false spec) := by
  refine (sound_pure CS Mixed (draws _ _) K hf hb hok callable).less fun args r h => ?_
  unfold spec at h
  split at h
  · rw [run_eq]; exact h
  · cases h
end law25_lives
namespace law25_few
noncomputable def code : Code := match Go.Proofs.Try.f31.body with | some c => c | none => .skip
def K : Nat → List Nat
  | 0 => [1]
  | 1 => [2]
  | _ => []
noncomputable def CC : Tab := C
theorem CS : CC.Sound Go.Proofs.Try.prog := Tab.Sound.none
theorem body_eq (fr : AFr) (H : AHeap) : acode Go.Proofs.Try.prog C (draws Go.Proofs.Try.prog C) K code fr H = body fr H := by kernel_rfl
theorem callable : Callable Go.Proofs.Try.prog 31 := fun args w => Go.Proofs.Try.call31 args w
theorem hf : Go.Proofs.Try.prog.funcs[31]? = some Go.Proofs.Try.f31 := Go.Proofs.Try.func31
theorem hb : Go.Proofs.Try.f31.body = some code := by kernel_rfl
theorem hok : codeOk Go.Proofs.Try.f31.ntmps code = true := by kernel_rfl
theorem run_eq (a0 : AV) : pureOf Go.Proofs.Try.prog CC (draws Go.Proofs.Try.prog CC) K Go.Proofs.Try.f31 code [a0] = law25_few a0 := by
  unfold pureOf arun
  rw [if_pos (show [a0].length ≤ Go.Proofs.Try.f31.ntmps from (by decide +kernel : 1 ≤ Go.Proofs.Try.f31.ntmps))]
  unfold afin
  rw [show acode Go.Proofs.Try.prog CC (draws Go.Proofs.Try.prog CC) K code (args0 [a0]) AHeap.empty = body (args0 [a0]) AHeap.empty from body_eq _ _]
  kernel_rfl
theorem sound : Sound Go.Proofs.Try.prog 31 (.pure false spec) := by
  refine (sound_pure CS Mixed (draws _ _) K hf hb hok callable).less fun args r h => ?_
  unfold spec at h
  split at h
  · rw [run_eq]; exact h
  · cases h
end law25_few
namespace law25_EmitCodes
noncomputable def code : Code := match Go.Proofs.Try.f7.body with | some c => c | none => .skip
def K : Nat → List Nat
  | 0 => [1, 2]
  | 1 => [1, 2, 17]
  | 2 => [4]
  | 3 => [1, 2, 5, 6]
  | 4 => [5, 6, 7, 8]
  | 5 => [5, 7, 43]
  | 6 => [4]
  | 7 => [5, 7, 9]
  | 8 => [5, 7, 9, 47]
  | 10 => [5, 7, 9, 59]
  | 11 => [4]
  | 9 => [5, 7, 9]
  | 12 => [4]
  | _ => []
noncomputable def CC : Tab := C law25_few.spec law25_lives.spec ref19_Own.spec emit_Code.spec ref25_Lines.spec ref04_Line.spec
theorem CS : CC.Sound Go.Proofs.Try.prog := ((((((Tab.Sound.none.add law25_few.sound).add law25_lives.sound).add ref19_Own.sound).add emit_Code.sound).add ref25_Lines.sound).add ref04_Line.sound)
theorem body_eq (s0 s1 s2 s3 s4 s5 : SpecP) (fr : AFr) (H : AHeap) : acode Go.Proofs.Try.prog (C s0 s1 s2 s3 s4 s5) (draws Go.Proofs.Try.prog (C s0 s1 s2 s3 s4 s5)) K code fr H = body s0 s1 s2 s3 s4 s5 fr H := by kernel_rfl
theorem callable : Callable Go.Proofs.Try.prog 7 := fun args w => Go.Proofs.Try.call7 args w
theorem hf : Go.Proofs.Try.prog.funcs[7]? = some Go.Proofs.Try.f7 := Go.Proofs.Try.func7
theorem hb : Go.Proofs.Try.f7.body = some code := by kernel_rfl
theorem hok : codeOk Go.Proofs.Try.f7.ntmps code = true := by kernel_rfl
theorem run_eq (a0 a1 : AV) : pureOf Go.Proofs.Try.prog CC (draws Go.Proofs.Try.prog CC) K Go.Proofs.Try.f7 code [a0, a1] = law25_EmitCodes a0 a1 := by
  unfold pureOf arun
  rw [if_pos (show [a0, a1].length ≤ Go.Proofs.Try.f7.ntmps from (by decide +kernel : 2 ≤ Go.Proofs.Try.f7.ntmps))]
  unfold afin
  rw [show acode Go.Proofs.Try.prog CC (draws Go.Proofs.Try.prog CC) K code (args0 [a0, a1]) AHeap.empty = body law25_few.spec law25_lives.spec ref19_Own.spec emit_Code.spec ref25_Lines.spec ref04_Line.spec (args0 [a0, a1]) AHeap.empty from body_eq law25_few.spec law25_lives.spec ref19_Own.spec emit_Code.spec ref25_Lines.spec ref04_Line.spec _ _]
  kernel_rfl
theorem sound : Sound Go.Proofs.Try.prog 7 (.pure false spec) := by
  refine (sound_pure CS Mixed (draws _ _) K hf hb hok callable).less fun args r h => ?_
  unfold spec at h
  split at h
  · rw [run_eq]; exact h
  · cases h
end law25_EmitCodes
end Go.Abs
