/-
  That the program's functions are these. Printed by gen.py.
-/
import Derived.Test.YteohnepdbjmghaaL02bF
import Derived.Test.YteohnepdbjmghaaLoP
import Derived.Test.YteohnepdbjmghaaTh2P
set_option linter.unusedSimpArgs false
set_option linter.unusedVariables false
namespace Go.Abs
namespace law02_lives
noncomputable def code : Code := match Go.Proofs.Try.f20.body with | some c => c | none => .skip
def K : Nat → List Nat
  | 0 => []
  | 1 => [1, 2]
  | 2 => [0]
  | _ => []
noncomputable def CC : Tab := C thumb_Put.spec thumb_Can.spec
theorem CS : CC.Sound Go.Proofs.Try.prog := ((Tab.Sound.none.add thumb_Put.sound).add thumb_Can.sound)
theorem body_eq (s0 s1 : SpecP) (fr : AFr) (H : AHeap) : acode Go.Proofs.Try.prog (C s0 s1) (draws Go.Proofs.Try.prog (C s0 s1)) K code fr H = body s0 s1 fr H := by kernel_rfl
theorem callable : Callable Go.Proofs.Try.prog 20 := fun args w => Go.Proofs.Try.call20 args w
theorem hf : Go.Proofs.Try.prog.funcs[20]? = some Go.Proofs.Try.f20 := Go.Proofs.Try.func20
theorem hb : Go.Proofs.Try.f20.body = some code := by kernel_rfl
theorem hok : codeOk Go.Proofs.Try.f20.ntmps code = true := by kernel_rfl
theorem run_eq : pureOf Go.Proofs.Try.prog CC (draws Go.Proofs.Try.prog CC) K Go.Proofs.Try.f20 code [] = law02_lives := by
  unfold pureOf arun
  rw [if_pos (show [].length ≤ Go.Proofs.Try.f20.ntmps from (by decide +kernel : 0 ≤ Go.Proofs.Try.f20.ntmps))]
  unfold afin
  rw [show acode Go.Proofs.Try.prog CC (draws Go.Proofs.Try.prog CC) K code (args0 []) AHeap.empty = body thumb_Put.spec thumb_Can.spec (args0 []) AHeap.empty from body_eq thumb_Put.spec thumb_Can.spec _ _]
  kernel_rfl
theorem sound : Sound Go.Proofs.Try.prog 20 (.pure false spec) := by
  refine (sound_pure CS Mixed (draws _ _) K hf hb hok callable).less fun args r h => ?_
  unfold spec at h
  split at h
  · rw [run_eq]; exact h
  · cases h
end law02_lives
namespace law02_ThumbRegs
noncomputable def code : Code := match Go.Proofs.Try.f3.body with | some c => c | none => .skip
def K : Nat → List Nat
  | 0 => [1]
  | 1 => [1, 3, 4]
  | 2 => [1, 3, 4, 5, 6]
  | 3 => [2]
  | _ => []
noncomputable def CC : Tab := C thumb_Writes.spec ref02_Writes.spec thumb_Reads.spec ref02_Reads.spec ref02_Same.spec law02_lives.spec
theorem CS : CC.Sound Go.Proofs.Try.prog := ((((((Tab.Sound.none.add thumb_Writes.sound).add ref02_Writes.sound).add thumb_Reads.sound).add ref02_Reads.sound).add ref02_Same.sound).add law02_lives.sound)
theorem body_eq (s0 s1 s2 s3 s4 s5 : SpecP) (fr : AFr) (H : AHeap) : acode Go.Proofs.Try.prog (C s0 s1 s2 s3 s4 s5) (draws Go.Proofs.Try.prog (C s0 s1 s2 s3 s4 s5)) K code fr H = body s0 s1 s2 s3 s4 s5 fr H := by kernel_rfl
theorem callable : Callable Go.Proofs.Try.prog 3 := fun args w => Go.Proofs.Try.call3 args w
theorem hf : Go.Proofs.Try.prog.funcs[3]? = some Go.Proofs.Try.f3 := Go.Proofs.Try.func3
theorem hb : Go.Proofs.Try.f3.body = some code := by kernel_rfl
theorem hok : codeOk Go.Proofs.Try.f3.ntmps code = true := by kernel_rfl
theorem run_eq (a0 : AV) : pureOf Go.Proofs.Try.prog CC (draws Go.Proofs.Try.prog CC) K Go.Proofs.Try.f3 code [a0] = law02_ThumbRegs a0 := by
  unfold pureOf arun
  rw [if_pos (show [a0].length ≤ Go.Proofs.Try.f3.ntmps from (by decide +kernel : 1 ≤ Go.Proofs.Try.f3.ntmps))]
  unfold afin
  rw [show acode Go.Proofs.Try.prog CC (draws Go.Proofs.Try.prog CC) K code (args0 [a0]) AHeap.empty = body thumb_Writes.spec ref02_Writes.spec thumb_Reads.spec ref02_Reads.spec ref02_Same.spec law02_lives.spec (args0 [a0]) AHeap.empty from body_eq thumb_Writes.spec ref02_Writes.spec thumb_Reads.spec ref02_Reads.spec ref02_Same.spec law02_lives.spec _ _]
  kernel_rfl
theorem sound : Sound Go.Proofs.Try.prog 3 (.pure false spec) := by
  refine (sound_pure CS Mixed (draws _ _) K hf hb hok callable).less fun args r h => ?_
  unfold spec at h
  split at h
  · rw [run_eq]; exact h
  · cases h
end law02_ThumbRegs
namespace law02_ThumbRises
noncomputable def code : Code := match Go.Proofs.Try.f4.body with | some c => c | none => .skip
def K : Nat → List Nat
  | 0 => [0]
  | 1 => [3, 4]
  | 2 => [3, 4, 5]
  | 3 => [3, 4, 5, 6, 7]
  | 4 => [3, 4, 5, 6, 7, 8]
  | 5 => [3, 4, 5, 6, 7, 8, 24]
  | 7 => [3, 4, 5, 6, 7, 8, 54]
  | 8 => [2]
  | 6 => [3, 4, 5, 6, 7, 8]
  | 9 => [2]
  | _ => []
noncomputable def CC : Tab := C thumb_Take.spec thumb_Reads.spec thumb_Writes.spec law02_lives.spec
theorem CS : CC.Sound Go.Proofs.Try.prog := ((((Tab.Sound.none.add thumb_Take.sound).add thumb_Reads.sound).add thumb_Writes.sound).add law02_lives.sound)
theorem body_eq (s0 s1 s2 s3 : SpecP) (fr : AFr) (H : AHeap) : acode Go.Proofs.Try.prog (C s0 s1 s2 s3) (draws Go.Proofs.Try.prog (C s0 s1 s2 s3)) K code fr H = body s0 s1 s2 s3 fr H := by kernel_rfl
theorem callable : Callable Go.Proofs.Try.prog 4 := fun args w => Go.Proofs.Try.call4 args w
theorem hf : Go.Proofs.Try.prog.funcs[4]? = some Go.Proofs.Try.f4 := Go.Proofs.Try.func4
theorem hb : Go.Proofs.Try.f4.body = some code := by kernel_rfl
theorem hok : codeOk Go.Proofs.Try.f4.ntmps code = true := by kernel_rfl
theorem run_eq (a0 : AV) : pureOf Go.Proofs.Try.prog CC (draws Go.Proofs.Try.prog CC) K Go.Proofs.Try.f4 code [a0] = law02_ThumbRises a0 := by
  unfold pureOf arun
  rw [if_pos (show [a0].length ≤ Go.Proofs.Try.f4.ntmps from (by decide +kernel : 1 ≤ Go.Proofs.Try.f4.ntmps))]
  unfold afin
  rw [show acode Go.Proofs.Try.prog CC (draws Go.Proofs.Try.prog CC) K code (args0 [a0]) AHeap.empty = body thumb_Take.spec thumb_Reads.spec thumb_Writes.spec law02_lives.spec (args0 [a0]) AHeap.empty from body_eq thumb_Take.spec thumb_Reads.spec thumb_Writes.spec law02_lives.spec _ _]
  kernel_rfl
theorem sound : Sound Go.Proofs.Try.prog 4 (.pure false spec) := by
  refine (sound_pure CS Mixed (draws _ _) K hf hb hok callable).less fun args r h => ?_
  unfold spec at h
  split at h
  · rw [run_eq]; exact h
  · cases h
end law02_ThumbRises
end Go.Abs
