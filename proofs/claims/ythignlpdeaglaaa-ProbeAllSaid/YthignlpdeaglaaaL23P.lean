/-
  That the program's functions are these. Printed by gen.py.
-/
import Derived.Test.YthignlpdeaglaaaL23F
import Derived.Test.YthignlpdeaglaaaPrP
import Derived.Test.YthignlpdeaglaaaIrP
import Derived.Test.YthignlpdeaglaaaPbP
import Derived.Test.YthignlpdeaglaaaLoP
set_option linter.unusedSimpArgs false
set_option linter.unusedVariables false
namespace Go.Abs
namespace law23_light
noncomputable def code : Code := match Go.Proofs.Try.f14.body with | some c => c | none => .skip
def K : Nat → List Nat
  | 0 => [1, 2]
  | 1 => [4]
  | _ => []
noncomputable def CC : Tab := C ref23_Looks.spec ref19_Randoms.spec
theorem CS : CC.Sound Go.Proofs.Try.prog := ((Tab.Sound.none.add ref23_Looks.sound).add ref19_Randoms.sound)
theorem body_eq (s0 s1 : SpecP) (fr : AFr) (H : AHeap) : acode Go.Proofs.Try.prog (C s0 s1) (draws Go.Proofs.Try.prog (C s0 s1)) K code fr H = body s0 s1 fr H := by kernel_rfl
theorem callable : Callable Go.Proofs.Try.prog 14 := fun args w => Go.Proofs.Try.call14 args w
theorem hf : Go.Proofs.Try.prog.funcs[14]? = some Go.Proofs.Try.f14 := Go.Proofs.Try.func14
theorem hb : Go.Proofs.Try.f14.body = some code := by kernel_rfl
theorem hok : codeOk Go.Proofs.Try.f14.ntmps code = true := by kernel_rfl
theorem run_eq (a0 a1 : AV) : pureOf Go.Proofs.Try.prog CC (draws Go.Proofs.Try.prog CC) K Go.Proofs.Try.f14 code [a0, a1] = law23_light a0 a1 := by
  unfold pureOf arun
  rw [if_pos (show [a0, a1].length ≤ Go.Proofs.Try.f14.ntmps from (by decide +kernel : 2 ≤ Go.Proofs.Try.f14.ntmps))]
  unfold afin
  rw [show acode Go.Proofs.Try.prog CC (draws Go.Proofs.Try.prog CC) K code (args0 [a0, a1]) AHeap.empty = body ref23_Looks.spec ref19_Randoms.spec (args0 [a0, a1]) AHeap.empty from body_eq ref23_Looks.spec ref19_Randoms.spec _ _]
  kernel_rfl
theorem sound : Sound Go.Proofs.Try.prog 14 (.pure false spec) := by
  refine (sound_pure CS Mixed (draws _ _) K hf hb hok callable).less fun args r h => ?_
  unfold spec at h
  split at h
  · rw [run_eq]; exact h
  · cases h
end law23_light
namespace law23_lives
noncomputable def code : Code := match Go.Proofs.Try.f15.body with | some c => c | none => .skip
def K : Nat → List Nat
  | 0 => []
  | 1 => [1, 2]
  | 2 => [1, 2, 3, 4]
  | 3 => [0]
  | _ => []
noncomputable def CC : Tab := C probe_Safe.spec
theorem CS : CC.Sound Go.Proofs.Try.prog := (Tab.Sound.none.add probe_Safe.sound)
theorem body_eq (s0 : SpecP) (fr : AFr) (H : AHeap) : acode Go.Proofs.Try.prog (C s0) (draws Go.Proofs.Try.prog (C s0)) K code fr H = body s0 fr H := by kernel_rfl
theorem callable : Callable Go.Proofs.Try.prog 15 := fun args w => Go.Proofs.Try.call15 args w
theorem hf : Go.Proofs.Try.prog.funcs[15]? = some Go.Proofs.Try.f15 := Go.Proofs.Try.func15
theorem hb : Go.Proofs.Try.f15.body = some code := by kernel_rfl
theorem hok : codeOk Go.Proofs.Try.f15.ntmps code = true := by kernel_rfl
theorem run_eq : pureOf Go.Proofs.Try.prog CC (draws Go.Proofs.Try.prog CC) K Go.Proofs.Try.f15 code [] = law23_lives := by
  unfold pureOf arun
  rw [if_pos (show [].length ≤ Go.Proofs.Try.f15.ntmps from (by decide +kernel : 0 ≤ Go.Proofs.Try.f15.ntmps))]
  unfold afin
  rw [show acode Go.Proofs.Try.prog CC (draws Go.Proofs.Try.prog CC) K code (args0 []) AHeap.empty = body probe_Safe.spec (args0 []) AHeap.empty from body_eq probe_Safe.spec _ _]
  kernel_rfl
theorem sound : Sound Go.Proofs.Try.prog 15 (.pure false spec) := by
  refine (sound_pure CS Mixed (draws _ _) K hf hb hok callable).less fun args r h => ?_
  unfold spec at h
  split at h
  · rw [run_eq]; exact h
  · cases h
end law23_lives
namespace law23_ProbeSafes
noncomputable def code : Code := match Go.Proofs.Try.f3.body with | some c => c | none => .skip
def K : Nat → List Nat
  | 0 => [1, 2, 3]
  | 1 => [1, 2, 3, 14]
  | 2 => [6]
  | 3 => [1, 2, 3, 7, 8]
  | 4 => [7, 8, 9, 10]
  | 5 => [6]
  | _ => []
noncomputable def CC : Tab := C law23_light.spec law23_lives.spec ref19_Own.spec probe_Safe.spec ref23_Safe.spec
theorem CS : CC.Sound Go.Proofs.Try.prog := (((((Tab.Sound.none.add law23_light.sound).add law23_lives.sound).add ref19_Own.sound).add probe_Safe.sound).add ref23_Safe.sound)
theorem body_eq (s0 s1 s2 s3 s4 : SpecP) (fr : AFr) (H : AHeap) : acode Go.Proofs.Try.prog (C s0 s1 s2 s3 s4) (draws Go.Proofs.Try.prog (C s0 s1 s2 s3 s4)) K code fr H = body s0 s1 s2 s3 s4 fr H := by kernel_rfl
theorem callable : Callable Go.Proofs.Try.prog 3 := fun args w => Go.Proofs.Try.call3 args w
theorem hf : Go.Proofs.Try.prog.funcs[3]? = some Go.Proofs.Try.f3 := Go.Proofs.Try.func3
theorem hb : Go.Proofs.Try.f3.body = some code := by kernel_rfl
theorem hok : codeOk Go.Proofs.Try.f3.ntmps code = true := by kernel_rfl
theorem run_eq (a0 a1 a2 : AV) : pureOf Go.Proofs.Try.prog CC (draws Go.Proofs.Try.prog CC) K Go.Proofs.Try.f3 code [a0, a1, a2] = law23_ProbeSafes a0 a1 a2 := by
  unfold pureOf arun
  rw [if_pos (show [a0, a1, a2].length ≤ Go.Proofs.Try.f3.ntmps from (by decide +kernel : 3 ≤ Go.Proofs.Try.f3.ntmps))]
  unfold afin
  rw [show acode Go.Proofs.Try.prog CC (draws Go.Proofs.Try.prog CC) K code (args0 [a0, a1, a2]) AHeap.empty = body law23_light.spec law23_lives.spec ref19_Own.spec probe_Safe.spec ref23_Safe.spec (args0 [a0, a1, a2]) AHeap.empty from body_eq law23_light.spec law23_lives.spec ref19_Own.spec probe_Safe.spec ref23_Safe.spec _ _]
  kernel_rfl
theorem sound : Sound Go.Proofs.Try.prog 3 (.pure false spec) := by
  refine (sound_pure CS Mixed (draws _ _) K hf hb hok callable).less fun args r h => ?_
  unfold spec at h
  split at h
  · rw [run_eq]; exact h
  · cases h
end law23_ProbeSafes
namespace law23_ProbeLess
noncomputable def code : Code := match Go.Proofs.Try.f4.body with | some c => c | none => .skip
def K : Nat → List Nat
  | 0 => [1, 2, 3]
  | 1 => [1, 2, 3, 20]
  | 2 => [6]
  | 3 => [1, 2, 3, 7, 8]
  | 4 => [1, 2, 3, 7, 42]
  | 5 => [6]
  | 6 => [1, 2, 3, 9]
  | 7 => [1, 2, 3, 9, 51]
  | 9 => [1, 2, 3, 9, 10, 11]
  | 10 => [1, 2, 3, 9, 81]
  | 11 => [6]
  | 8 => [1, 2, 3, 9]
  | 12 => [6]
  | _ => []
noncomputable def CC : Tab := C law23_light.spec law23_lives.spec ref19_Own.spec probe_Safe.spec
theorem CS : CC.Sound Go.Proofs.Try.prog := ((((Tab.Sound.none.add law23_light.sound).add law23_lives.sound).add ref19_Own.sound).add probe_Safe.sound)
theorem body_eq (s0 s1 s2 s3 : SpecP) (fr : AFr) (H : AHeap) : acode Go.Proofs.Try.prog (C s0 s1 s2 s3) (draws Go.Proofs.Try.prog (C s0 s1 s2 s3)) K code fr H = body s0 s1 s2 s3 fr H := by kernel_rfl
theorem callable : Callable Go.Proofs.Try.prog 4 := fun args w => Go.Proofs.Try.call4 args w
theorem hf : Go.Proofs.Try.prog.funcs[4]? = some Go.Proofs.Try.f4 := Go.Proofs.Try.func4
theorem hb : Go.Proofs.Try.f4.body = some code := by kernel_rfl
theorem hok : codeOk Go.Proofs.Try.f4.ntmps code = true := by kernel_rfl
theorem run_eq (a0 a1 a2 : AV) : pureOf Go.Proofs.Try.prog CC (draws Go.Proofs.Try.prog CC) K Go.Proofs.Try.f4 code [a0, a1, a2] = law23_ProbeLess a0 a1 a2 := by
  unfold pureOf arun
  rw [if_pos (show [a0, a1, a2].length ≤ Go.Proofs.Try.f4.ntmps from (by decide +kernel : 3 ≤ Go.Proofs.Try.f4.ntmps))]
  unfold afin
  rw [show acode Go.Proofs.Try.prog CC (draws Go.Proofs.Try.prog CC) K code (args0 [a0, a1, a2]) AHeap.empty = body law23_light.spec law23_lives.spec ref19_Own.spec probe_Safe.spec (args0 [a0, a1, a2]) AHeap.empty from body_eq law23_light.spec law23_lives.spec ref19_Own.spec probe_Safe.spec _ _]
  kernel_rfl
theorem sound : Sound Go.Proofs.Try.prog 4 (.pure false spec) := by
  refine (sound_pure CS Mixed (draws _ _) K hf hb hok callable).less fun args r h => ?_
  unfold spec at h
  split at h
  · rw [run_eq]; exact h
  · cases h
end law23_ProbeLess
namespace law23_ProbeSpreads
noncomputable def code : Code := match Go.Proofs.Try.f5.body with | some c => c | none => .skip
def K : Nat → List Nat
  | 0 => [2, 3, 4]
  | 1 => [2, 3, 4, 14]
  | 2 => [6]
  | 3 => [2, 3, 4, 7, 8]
  | 4 => [7, 8, 9, 10]
  | 5 => [6]
  | _ => []
noncomputable def CC : Tab := C law23_light.spec law23_lives.spec ref19_Own.spec probe_Spread.spec ref23_Spread.spec ref02_Same.spec
theorem CS : CC.Sound Go.Proofs.Try.prog := ((((((Tab.Sound.none.add law23_light.sound).add law23_lives.sound).add ref19_Own.sound).add probe_Spread.sound).add ref23_Spread.sound).add ref02_Same.sound)
theorem body_eq (s0 s1 s2 s3 s4 s5 : SpecP) (fr : AFr) (H : AHeap) : acode Go.Proofs.Try.prog (C s0 s1 s2 s3 s4 s5) (draws Go.Proofs.Try.prog (C s0 s1 s2 s3 s4 s5)) K code fr H = body s0 s1 s2 s3 s4 s5 fr H := by kernel_rfl
theorem callable : Callable Go.Proofs.Try.prog 5 := fun args w => Go.Proofs.Try.call5 args w
theorem hf : Go.Proofs.Try.prog.funcs[5]? = some Go.Proofs.Try.f5 := Go.Proofs.Try.func5
theorem hb : Go.Proofs.Try.f5.body = some code := by kernel_rfl
theorem hok : codeOk Go.Proofs.Try.f5.ntmps code = true := by kernel_rfl
theorem run_eq (a0 a1 a2 : AV) : pureOf Go.Proofs.Try.prog CC (draws Go.Proofs.Try.prog CC) K Go.Proofs.Try.f5 code [a0, a1, a2] = law23_ProbeSpreads a0 a1 a2 := by
  unfold pureOf arun
  rw [if_pos (show [a0, a1, a2].length ≤ Go.Proofs.Try.f5.ntmps from (by decide +kernel : 3 ≤ Go.Proofs.Try.f5.ntmps))]
  unfold afin
  rw [show acode Go.Proofs.Try.prog CC (draws Go.Proofs.Try.prog CC) K code (args0 [a0, a1, a2]) AHeap.empty = body law23_light.spec law23_lives.spec ref19_Own.spec probe_Spread.spec ref23_Spread.spec ref02_Same.spec (args0 [a0, a1, a2]) AHeap.empty from body_eq law23_light.spec law23_lives.spec ref19_Own.spec probe_Spread.spec ref23_Spread.spec ref02_Same.spec _ _]
  kernel_rfl
theorem sound : Sound Go.Proofs.Try.prog 5 (.pure false spec) := by
  refine (sound_pure CS Mixed (draws _ _) K hf hb hok callable).less fun args r h => ?_
  unfold spec at h
  split at h
  · rw [run_eq]; exact h
  · cases h
end law23_ProbeSpreads
namespace law23_ProbeAll
noncomputable def code : Code := match Go.Proofs.Try.f6.body with | some c => c | none => .skip
def K : Nat → List Nat
  | 0 => [2, 3, 4]
  | 1 => [2, 3, 4, 24]
  | 2 => [6]
  | 3 => [2, 3, 4, 7, 8]
  | 4 => [3, 7, 8, 9, 10]
  | 5 => [3, 7, 9, 10, 67]
  | 6 => [6]
  | 7 => [3, 7, 9, 10, 11, 12]
  | 8 => [3, 7, 9, 10, 11, 12, 13]
  | 9 => [3, 7, 9, 10, 11, 12, 13, 84]
  | 11 => [3, 7, 9, 10, 11, 12, 13]
  | 10 => [3, 7, 9, 10, 11, 12, 13]
  | 12 => [7, 9, 10, 11, 12, 14]
  | 13 => [7, 9, 10, 11, 12, 14, 92]
  | 15 => [7, 9, 10, 11, 12, 14]
  | 14 => [7, 9, 10, 11, 12, 14]
  | 16 => [7, 9, 115]
  | 17 => [6]
  | 18 => [7, 9, 15]
  | 19 => [7, 9, 15, 119]
  | 21 => [7, 9, 15, 138]
  | 22 => [6]
  | 20 => [7, 9, 15]
  | 23 => [6]
  | _ => []
noncomputable def CC : Tab := C law23_light.spec law23_lives.spec ref19_Own.spec probe_Spread.spec ref19_Randoms.spec
theorem CS : CC.Sound Go.Proofs.Try.prog := (((((Tab.Sound.none.add law23_light.sound).add law23_lives.sound).add ref19_Own.sound).add probe_Spread.sound).add ref19_Randoms.sound)
theorem body_eq (s0 s1 s2 s3 s4 : SpecP) (fr : AFr) (H : AHeap) : acode Go.Proofs.Try.prog (C s0 s1 s2 s3 s4) (draws Go.Proofs.Try.prog (C s0 s1 s2 s3 s4)) K code fr H = body s0 s1 s2 s3 s4 fr H := by kernel_rfl
theorem callable : Callable Go.Proofs.Try.prog 6 := fun args w => Go.Proofs.Try.call6 args w
theorem hf : Go.Proofs.Try.prog.funcs[6]? = some Go.Proofs.Try.f6 := Go.Proofs.Try.func6
theorem hb : Go.Proofs.Try.f6.body = some code := by kernel_rfl
theorem hok : codeOk Go.Proofs.Try.f6.ntmps code = true := by kernel_rfl
theorem run_eq (a0 a1 a2 : AV) : pureOf Go.Proofs.Try.prog CC (draws Go.Proofs.Try.prog CC) K Go.Proofs.Try.f6 code [a0, a1, a2] = law23_ProbeAll a0 a1 a2 := by
  unfold pureOf arun
  rw [if_pos (show [a0, a1, a2].length ≤ Go.Proofs.Try.f6.ntmps from (by decide +kernel : 3 ≤ Go.Proofs.Try.f6.ntmps))]
  unfold afin
  rw [show acode Go.Proofs.Try.prog CC (draws Go.Proofs.Try.prog CC) K code (args0 [a0, a1, a2]) AHeap.empty = body law23_light.spec law23_lives.spec ref19_Own.spec probe_Spread.spec ref19_Randoms.spec (args0 [a0, a1, a2]) AHeap.empty from body_eq law23_light.spec law23_lives.spec ref19_Own.spec probe_Spread.spec ref19_Randoms.spec _ _]
  kernel_rfl
theorem sound : Sound Go.Proofs.Try.prog 6 (.pure false spec) := by
  refine (sound_pure CS Mixed (draws _ _) K hf hb hok callable).less fun args r h => ?_
  unfold spec at h
  split at h
  · rw [run_eq]; exact h
  · cases h
end law23_ProbeAll
namespace law23_ProbeFirst
noncomputable def code : Code := match Go.Proofs.Try.f7.body with | some c => c | none => .skip
def K : Nat → List Nat
  | 0 => [1, 2]
  | 1 => [1, 2, 23]
  | 2 => [4]
  | 3 => [1, 2, 45]
  | 4 => [4]
  | 5 => [1, 2, 5, 6]
  | 6 => [5, 6, 7, 8]
  | 7 => [4]
  | _ => []
noncomputable def CC : Tab := C law23_light.spec law23_lives.spec ref19_Randoms.spec ref23_Looks.spec ref19_Own.spec probe_First.spec ref23_First.spec ref02_Same.spec
theorem CS : CC.Sound Go.Proofs.Try.prog := ((((((((Tab.Sound.none.add law23_light.sound).add law23_lives.sound).add ref19_Randoms.sound).add ref23_Looks.sound).add ref19_Own.sound).add probe_First.sound).add ref23_First.sound).add ref02_Same.sound)
theorem body_eq (s0 s1 s2 s3 s4 s5 s6 s7 : SpecP) (fr : AFr) (H : AHeap) : acode Go.Proofs.Try.prog (C s0 s1 s2 s3 s4 s5 s6 s7) (draws Go.Proofs.Try.prog (C s0 s1 s2 s3 s4 s5 s6 s7)) K code fr H = body s0 s1 s2 s3 s4 s5 s6 s7 fr H := by kernel_rfl
theorem callable : Callable Go.Proofs.Try.prog 7 := fun args w => Go.Proofs.Try.call7 args w
theorem hf : Go.Proofs.Try.prog.funcs[7]? = some Go.Proofs.Try.f7 := Go.Proofs.Try.func7
theorem hb : Go.Proofs.Try.f7.body = some code := by kernel_rfl
theorem hok : codeOk Go.Proofs.Try.f7.ntmps code = true := by kernel_rfl
theorem run_eq (a0 a1 : AV) : pureOf Go.Proofs.Try.prog CC (draws Go.Proofs.Try.prog CC) K Go.Proofs.Try.f7 code [a0, a1] = law23_ProbeFirst a0 a1 := by
  unfold pureOf arun
  rw [if_pos (show [a0, a1].length ≤ Go.Proofs.Try.f7.ntmps from (by decide +kernel : 2 ≤ Go.Proofs.Try.f7.ntmps))]
  unfold afin
  rw [show acode Go.Proofs.Try.prog CC (draws Go.Proofs.Try.prog CC) K code (args0 [a0, a1]) AHeap.empty = body law23_light.spec law23_lives.spec ref19_Randoms.spec ref23_Looks.spec ref19_Own.spec probe_First.spec ref23_First.spec ref02_Same.spec (args0 [a0, a1]) AHeap.empty from body_eq law23_light.spec law23_lives.spec ref19_Randoms.spec ref23_Looks.spec ref19_Own.spec probe_First.spec ref23_First.spec ref02_Same.spec _ _]
  kernel_rfl
theorem sound : Sound Go.Proofs.Try.prog 7 (.pure false spec) := by
  refine (sound_pure CS Mixed (draws _ _) K hf hb hok callable).less fun args r h => ?_
  unfold spec at h
  split at h
  · rw [run_eq]; exact h
  · cases h
end law23_ProbeFirst
end Go.Abs
