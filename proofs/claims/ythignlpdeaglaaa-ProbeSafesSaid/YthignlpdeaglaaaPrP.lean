/-
  That the program's functions are these. Printed by gen.py.
-/
import Derived.Test.YthignlpdeaglaaaPrF
import Derived.Test.YthignlpdeaglaaaIrP
import Derived.Test.YthignlpdeaglaaaLoP
set_option linter.unusedSimpArgs false
set_option linter.unusedVariables false
namespace Go.Abs
namespace ref23_Looks
noncomputable def code : Code := match Go.Proofs.Try.f23.body with | some c => c | none => .skip
def K : Nat → List Nat
  | 0 => [1, 2, 3, 4]
  | 1 => [1, 2, 3, 4, 37]
  | 2 => [8]
  | 3 => [1, 2, 3, 4, 9]
  | 4 => [1, 2, 3, 4, 9, 41]
  | 6 => [1, 2, 3, 4, 9, 61]
  | 7 => [8]
  | 5 => [1, 2, 3, 4, 9]
  | 8 => [73]
  | 9 => [8]
  | 10 => [8]
  | _ => []
noncomputable def CC : Tab := C ref19_Can.spec ref19_Randoms.spec
theorem CS : CC.Sound Go.Proofs.Try.prog := ((Tab.Sound.none.add ref19_Can.sound).add ref19_Randoms.sound)
theorem body_eq (s0 s1 : SpecP) (fr : AFr) (H : AHeap) : acode Go.Proofs.Try.prog (C s0 s1) (draws Go.Proofs.Try.prog (C s0 s1)) K code fr H = body s0 s1 fr H := by kernel_rfl
theorem callable : Callable Go.Proofs.Try.prog 23 := fun args w => Go.Proofs.Try.call23 args w
theorem hf : Go.Proofs.Try.prog.funcs[23]? = some Go.Proofs.Try.f23 := Go.Proofs.Try.func23
theorem hb : Go.Proofs.Try.f23.body = some code := by kernel_rfl
theorem hok : codeOk Go.Proofs.Try.f23.ntmps code = true := by kernel_rfl
theorem run_eq (a0 a1 a2 a3 : AV) : pureOf Go.Proofs.Try.prog CC (draws Go.Proofs.Try.prog CC) K Go.Proofs.Try.f23 code [a0, a1, a2, a3] = ref23_Looks a0 a1 a2 a3 := by
  unfold pureOf arun
  rw [if_pos (show [a0, a1, a2, a3].length ≤ Go.Proofs.Try.f23.ntmps from (by decide +kernel : 4 ≤ Go.Proofs.Try.f23.ntmps))]
  unfold afin
  rw [show acode Go.Proofs.Try.prog CC (draws Go.Proofs.Try.prog CC) K code (args0 [a0, a1, a2, a3]) AHeap.empty = body ref19_Can.spec ref19_Randoms.spec (args0 [a0, a1, a2, a3]) AHeap.empty from body_eq ref19_Can.spec ref19_Randoms.spec _ _]
  kernel_rfl
theorem sound : Sound Go.Proofs.Try.prog 23 (.pure false spec) := by
  refine (sound_pure CS Mixed (draws _ _) K hf hb hok callable).less fun args r h => ?_
  unfold spec at h
  split at h
  · rw [run_eq]; exact h
  · cases h
end ref23_Looks
namespace ref23_bit
noncomputable def code : Code := match Go.Proofs.Try.f48.body with | some c => c | none => .skip
def K : Nat → List Nat
  | 0 => [0, 1]
  | 1 => [4]
  | _ => []
noncomputable def CC : Tab := C
theorem CS : CC.Sound Go.Proofs.Try.prog := Tab.Sound.none
theorem body_eq (fr : AFr) (H : AHeap) : acode Go.Proofs.Try.prog C (draws Go.Proofs.Try.prog C) K code fr H = body fr H := by kernel_rfl
theorem callable : Callable Go.Proofs.Try.prog 48 := fun args w => Go.Proofs.Try.call48 args w
theorem hf : Go.Proofs.Try.prog.funcs[48]? = some Go.Proofs.Try.f48 := Go.Proofs.Try.func48
theorem hb : Go.Proofs.Try.f48.body = some code := by kernel_rfl
theorem hok : codeOk Go.Proofs.Try.f48.ntmps code = true := by kernel_rfl
theorem run_eq (a0 a1 : AV) : pureOf Go.Proofs.Try.prog CC (draws Go.Proofs.Try.prog CC) K Go.Proofs.Try.f48 code [a0, a1] = ref23_bit a0 a1 := by
  unfold pureOf arun
  rw [if_pos (show [a0, a1].length ≤ Go.Proofs.Try.f48.ntmps from (by decide +kernel : 2 ≤ Go.Proofs.Try.f48.ntmps))]
  unfold afin
  rw [show acode Go.Proofs.Try.prog CC (draws Go.Proofs.Try.prog CC) K code (args0 [a0, a1]) AHeap.empty = body (args0 [a0, a1]) AHeap.empty from body_eq _ _]
  kernel_rfl
theorem sound : Sound Go.Proofs.Try.prog 48 (.pure false spec) := by
  refine (sound_pure CS Mixed (draws _ _) K hf hb hok callable).less fun args r h => ?_
  unfold spec at h
  split at h
  · rw [run_eq]; exact h
  · cases h
end ref23_bit
namespace ref23_Spread
noncomputable def code : Code := match Go.Proofs.Try.f20.body with | some c => c | none => .skip
def K : Nat → List Nat
  | 0 => [1, 2, 3, 4, 5, 6]
  | 1 => [1, 2, 3, 4, 5, 6, 14]
  | 2 => [1, 2, 3, 4, 5, 6, 14, 33]
  | 3 => [12, 13]
  | 4 => [1, 2, 3, 4, 5, 6, 15, 16]
  | 5 => [1, 2, 3, 4, 5, 6, 15, 16, 17]
  | 6 => [1, 2, 3, 4, 5, 6, 15, 16, 17, 41]
  | 8 => [1, 2, 3, 4, 5, 6, 15, 16, 17]
  | 7 => [1, 2, 3, 4, 5, 6, 15, 16, 17]
  | 9 => [1, 2, 3, 4, 5, 6, 15, 16, 18]
  | 10 => [1, 2, 3, 4, 5, 6, 15, 16, 18, 48]
  | 12 => [1, 2, 3, 4, 5, 6, 15, 16, 18, 19, 20]
  | 13 => [1, 2, 3, 4, 5, 6, 15, 16, 18, 19, 20, 21]
  | 14 => [1, 2, 3, 4, 5, 6, 15, 16, 18, 19, 20, 21, 59]
  | 16 => [1, 2, 3, 4, 5, 6, 15, 16, 18, 19, 20, 21, 22]
  | 17 => [1, 2, 3, 4, 5, 6, 15, 16, 18, 19, 20, 21, 22, 23]
  | 18 => [1, 2, 3, 4, 5, 6, 15, 16, 18, 19, 20, 21, 22, 23, 67]
  | 20 => [1, 2, 3, 4, 5, 6, 15, 16, 18, 19, 20, 21, 22, 23]
  | 19 => [1, 2, 3, 4, 5, 6, 15, 16, 18, 19, 20, 21, 22, 23]
  | 21 => [1, 2, 3, 4, 5, 6, 15, 16, 18, 19, 20, 21]
  | 15 => [1, 2, 3, 4, 5, 6, 15, 16, 18, 19, 20, 21]
  | 22 => [1, 2, 3, 4, 5, 6, 15, 16, 18, 20, 99]
  | 23 => [1, 2, 3, 4, 5, 6, 15, 16, 18, 20, 24]
  | 24 => [1, 2, 3, 4, 5, 6, 15, 16, 18, 20]
  | 25 => [1, 2, 3, 4, 5, 6, 15, 16, 18, 25]
  | 26 => [1, 2, 3, 4, 5, 6, 15, 16, 18, 25, 26]
  | 27 => [1, 2, 3, 4, 5, 6, 15, 16, 18, 25, 26, 115]
  | 29 => [1, 2, 3, 4, 5, 6, 15, 16, 18, 25, 26, 119]
  | 30 => [1, 2, 3, 4, 5, 6, 15, 16, 18, 25, 26]
  | 31 => [1, 2, 3, 4, 5, 6, 15, 16, 18, 25, 26]
  | 28 => [1, 2, 3, 4, 5, 6, 15, 16, 18, 25, 26]
  | 11 => [1, 2, 3, 4, 5, 6, 15, 16, 18]
  | 32 => [12, 13]
  | _ => []
noncomputable def CC : Tab := C ref23_Looks.spec ref19_Bits.spec ref23_bit.spec ref19_Spread.spec
theorem CS : CC.Sound Go.Proofs.Try.prog := ((((Tab.Sound.none.add ref23_Looks.sound).add ref19_Bits.sound).add ref23_bit.sound).add ref19_Spread.sound)
theorem body_eq (s0 s1 s2 s3 : SpecP) (fr : AFr) (H : AHeap) : acode Go.Proofs.Try.prog (C s0 s1 s2 s3) (draws Go.Proofs.Try.prog (C s0 s1 s2 s3)) K code fr H = body s0 s1 s2 s3 fr H := by kernel_rfl
theorem callable : Callable Go.Proofs.Try.prog 20 := fun args w => Go.Proofs.Try.call20 args w
theorem hf : Go.Proofs.Try.prog.funcs[20]? = some Go.Proofs.Try.f20 := Go.Proofs.Try.func20
theorem hb : Go.Proofs.Try.f20.body = some code := by kernel_rfl
theorem hok : codeOk Go.Proofs.Try.f20.ntmps code = true := by kernel_rfl
theorem run_eq (a0 a1 a2 a3 a4 a5 : AV) : pureOf Go.Proofs.Try.prog CC (draws Go.Proofs.Try.prog CC) K Go.Proofs.Try.f20 code [a0, a1, a2, a3, a4, a5] = ref23_Spread a0 a1 a2 a3 a4 a5 := by
  unfold pureOf arun
  rw [if_pos (show [a0, a1, a2, a3, a4, a5].length ≤ Go.Proofs.Try.f20.ntmps from (by decide +kernel : 6 ≤ Go.Proofs.Try.f20.ntmps))]
  unfold afin
  rw [show acode Go.Proofs.Try.prog CC (draws Go.Proofs.Try.prog CC) K code (args0 [a0, a1, a2, a3, a4, a5]) AHeap.empty = body ref23_Looks.spec ref19_Bits.spec ref23_bit.spec ref19_Spread.spec (args0 [a0, a1, a2, a3, a4, a5]) AHeap.empty from body_eq ref23_Looks.spec ref19_Bits.spec ref23_bit.spec ref19_Spread.spec _ _]
  kernel_rfl
theorem sound : Sound Go.Proofs.Try.prog 20 (.pure false spec) := by
  refine (sound_pure CS Mixed (draws _ _) K hf hb hok callable).less fun args r h => ?_
  unfold spec at h
  split at h
  · rw [run_eq]; exact h
  · cases h
end ref23_Spread
namespace ref23_Safe
noncomputable def code : Code := match Go.Proofs.Try.f18.body with | some c => c | none => .skip
def K : Nat → List Nat
  | 0 => [1, 2, 3, 4, 5]
  | 1 => [1, 2, 3, 4, 5, 12, 13]
  | 2 => [1, 2, 3, 4, 5, 12, 13, 29]
  | 3 => [10, 11]
  | 4 => [1, 2, 3, 4, 5, 12, 14]
  | 5 => [1, 2, 3, 4, 5, 12, 14, 15]
  | 6 => [1, 2, 3, 4, 5, 12, 14, 15, 33]
  | 8 => [1, 2, 3, 4, 5, 12, 14, 15]
  | 7 => [1, 2, 3, 4, 5, 12, 14, 15]
  | 9 => [1, 2, 3, 4, 5, 12, 14, 16]
  | 10 => [1, 2, 3, 4, 5, 12, 14, 16, 40]
  | 12 => [1, 2, 3, 4, 5, 12, 14, 16, 17]
  | 13 => [1, 2, 3, 4, 5, 12, 14, 16, 56]
  | 14 => [10, 11]
  | 11 => [1, 2, 3, 4, 5, 12, 14, 16]
  | 15 => [10, 11]
  | _ => []
noncomputable def CC : Tab := C ref23_Spread.spec ref02_Same.spec
theorem CS : CC.Sound Go.Proofs.Try.prog := ((Tab.Sound.none.add ref23_Spread.sound).add ref02_Same.sound)
theorem body_eq (s0 s1 : SpecP) (fr : AFr) (H : AHeap) : acode Go.Proofs.Try.prog (C s0 s1) (draws Go.Proofs.Try.prog (C s0 s1)) K code fr H = body s0 s1 fr H := by kernel_rfl
theorem callable : Callable Go.Proofs.Try.prog 18 := fun args w => Go.Proofs.Try.call18 args w
theorem hf : Go.Proofs.Try.prog.funcs[18]? = some Go.Proofs.Try.f18 := Go.Proofs.Try.func18
theorem hb : Go.Proofs.Try.f18.body = some code := by kernel_rfl
theorem hok : codeOk Go.Proofs.Try.f18.ntmps code = true := by kernel_rfl
theorem run_eq (a0 a1 a2 a3 a4 : AV) : pureOf Go.Proofs.Try.prog CC (draws Go.Proofs.Try.prog CC) K Go.Proofs.Try.f18 code [a0, a1, a2, a3, a4] = ref23_Safe a0 a1 a2 a3 a4 := by
  unfold pureOf arun
  rw [if_pos (show [a0, a1, a2, a3, a4].length ≤ Go.Proofs.Try.f18.ntmps from (by decide +kernel : 5 ≤ Go.Proofs.Try.f18.ntmps))]
  unfold afin
  rw [show acode Go.Proofs.Try.prog CC (draws Go.Proofs.Try.prog CC) K code (args0 [a0, a1, a2, a3, a4]) AHeap.empty = body ref23_Spread.spec ref02_Same.spec (args0 [a0, a1, a2, a3, a4]) AHeap.empty from body_eq ref23_Spread.spec ref02_Same.spec _ _]
  kernel_rfl
theorem sound : Sound Go.Proofs.Try.prog 18 (.pure false spec) := by
  refine (sound_pure CS Mixed (draws _ _) K hf hb hok callable).less fun args r h => ?_
  unfold spec at h
  split at h
  · rw [run_eq]; exact h
  · cases h
end ref23_Safe
namespace ref23_First
noncomputable def code : Code := match Go.Proofs.Try.f25.body with | some c => c | none => .skip
def K : Nat → List Nat
  | 0 => [1, 2, 3, 4]
  | 1 => [1, 2, 3, 4, 10]
  | 2 => [1, 2, 3, 4, 10, 23]
  | 3 => [8, 9]
  | 4 => [1, 2, 3, 4, 11]
  | 5 => [1, 2, 3, 4, 11, 41]
  | 6 => [8, 9]
  | 7 => [1, 2, 3, 4, 11, 12]
  | 8 => [1, 2, 3, 4, 11, 12, 45]
  | 10 => [1, 2, 3, 4, 11, 12, 13]
  | 11 => [1, 2, 3, 4, 11, 12, 13, 14]
  | 12 => [1, 2, 3, 4, 11, 12, 13, 14, 64]
  | 14 => [1, 2, 3, 4, 11, 12, 13, 14, 68]
  | 15 => [1, 2, 3, 4, 11, 12, 13, 14]
  | 16 => [1, 2, 3, 4, 11, 12, 13, 14, 15]
  | 17 => [1, 2, 3, 4, 11, 12, 13, 14, 81]
  | 18 => [8, 9]
  | 13 => [1, 2, 3, 4, 11, 12, 13, 14]
  | 9 => [1, 2, 3, 4, 11, 12]
  | 19 => [8, 9]
  | _ => []
noncomputable def CC : Tab := C ref23_Looks.spec ref23_Safe.spec
theorem CS : CC.Sound Go.Proofs.Try.prog := ((Tab.Sound.none.add ref23_Looks.sound).add ref23_Safe.sound)
theorem body_eq (s0 s1 : SpecP) (fr : AFr) (H : AHeap) : acode Go.Proofs.Try.prog (C s0 s1) (draws Go.Proofs.Try.prog (C s0 s1)) K code fr H = body s0 s1 fr H := by kernel_rfl
theorem callable : Callable Go.Proofs.Try.prog 25 := fun args w => Go.Proofs.Try.call25 args w
theorem hf : Go.Proofs.Try.prog.funcs[25]? = some Go.Proofs.Try.f25 := Go.Proofs.Try.func25
theorem hb : Go.Proofs.Try.f25.body = some code := by kernel_rfl
theorem hok : codeOk Go.Proofs.Try.f25.ntmps code = true := by kernel_rfl
theorem run_eq (a0 a1 a2 a3 : AV) : pureOf Go.Proofs.Try.prog CC (draws Go.Proofs.Try.prog CC) K Go.Proofs.Try.f25 code [a0, a1, a2, a3] = ref23_First a0 a1 a2 a3 := by
  unfold pureOf arun
  rw [if_pos (show [a0, a1, a2, a3].length ≤ Go.Proofs.Try.f25.ntmps from (by decide +kernel : 4 ≤ Go.Proofs.Try.f25.ntmps))]
  unfold afin
  rw [show acode Go.Proofs.Try.prog CC (draws Go.Proofs.Try.prog CC) K code (args0 [a0, a1, a2, a3]) AHeap.empty = body ref23_Looks.spec ref23_Safe.spec (args0 [a0, a1, a2, a3]) AHeap.empty from body_eq ref23_Looks.spec ref23_Safe.spec _ _]
  kernel_rfl
theorem sound : Sound Go.Proofs.Try.prog 25 (.pure false spec) := by
  refine (sound_pure CS Mixed (draws _ _) K hf hb hok callable).less fun args r h => ?_
  unfold spec at h
  split at h
  · rw [run_eq]; exact h
  · cases h
end ref23_First
end Go.Abs
