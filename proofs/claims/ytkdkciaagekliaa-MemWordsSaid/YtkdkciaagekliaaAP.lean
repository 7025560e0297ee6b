/-
  That the program's functions are these. Printed by gen.py.
-/
import Derived.Test.YtkdkciaagekliaaAF
import Derived.Test.YtkdkciaagekliaaP0
set_option linter.unusedSimpArgs false
set_option linter.unusedVariables false
namespace Go.Abs
/-! bauta/bautalaw05.short -/
namespace law05_short
noncomputable def code : Code := match Go.Proofs.Try.f20.body with | some c => c | none => .skip
def K : Nat → List Nat
  | 0 => [0, 1]
  | 1 => [0, 1, 8]
  | 2 => [0, 1]
  | 3 => [0, 1, 13]
  | 4 => [0, 1]
  | 5 => [4, 5]
  | _ => []
noncomputable def CC : Tab := C
theorem CS : CC.Sound Go.Proofs.Try.prog := Tab.Sound.none
theorem body_eq (fr : AFr) (H : AHeap) : acode Go.Proofs.Try.prog C (draws Go.Proofs.Try.prog C) K code fr H = body fr H := by kernel_rfl
theorem callable : Callable Go.Proofs.Try.prog 20 := fun args w => Go.Proofs.Try.call20 args w
theorem hf : Go.Proofs.Try.prog.funcs[20]? = some Go.Proofs.Try.f20 := Go.Proofs.Try.func20
theorem hb : Go.Proofs.Try.f20.body = some code := by kernel_rfl
theorem hok : codeOk Go.Proofs.Try.f20.ntmps code = true := by kernel_rfl
theorem run_eq (a0 a1 : AV) : pureOf Go.Proofs.Try.prog CC (draws Go.Proofs.Try.prog CC) K Go.Proofs.Try.f20 code [a0, a1] = law05_short a0 a1 := by
  unfold pureOf arun
  rw [if_pos (show [a0, a1].length ≤ Go.Proofs.Try.f20.ntmps from (by decide +kernel : 2 ≤ Go.Proofs.Try.f20.ntmps))]
  unfold afin
  rw [show acode Go.Proofs.Try.prog CC (draws Go.Proofs.Try.prog CC) K code (args0 [a0, a1]) AHeap.empty = body (args0 [a0, a1]) AHeap.empty from body_eq _ _]
  kernel_rfl
theorem sound : Sound Go.Proofs.Try.prog 20 (.pure false spec) := by
  refine (sound_pure CS Mixed (draws _ _) K hf hb hok callable).less fun args r h => ?_
  unfold spec at h
  split at h
  · rw [run_eq]; exact h
  · cases h
end law05_short

/-! slices.Clone[[]uint16,uint16] -/
namespace slices_Clone_uint16
noncomputable def code : Code := match Go.Proofs.Try.f58.body with | some c => c | none => .skip
def K : Nat → List Nat
  | 0 => [0]
  | 1 => [0, 4]
  | 2 => [2]
  | 3 => [2]
  | _ => []
noncomputable def CC : Tab := C
theorem CS : CC.Sound Go.Proofs.Try.prog := Tab.Sound.none
theorem body_eq (fr : AFr) (H : AHeap) : acode Go.Proofs.Try.prog C (draws Go.Proofs.Try.prog C) K code fr H = body fr H := by kernel_rfl
theorem callable : Callable Go.Proofs.Try.prog 58 := fun args w => Go.Proofs.Try.call58 args w
theorem hf : Go.Proofs.Try.prog.funcs[58]? = some Go.Proofs.Try.f58 := Go.Proofs.Try.func58
theorem hb : Go.Proofs.Try.f58.body = some code := by kernel_rfl
theorem hok : codeOk Go.Proofs.Try.f58.ntmps code = true := by kernel_rfl
theorem run_eq (a0 : AV) : copyOf Go.Proofs.Try.prog CC (draws Go.Proofs.Try.prog CC) K Go.Proofs.Try.f58 code [a0] = slices_Clone_uint16.run a0 := by
  unfold copyOf arun
  rw [if_pos (show [a0].length ≤ Go.Proofs.Try.f58.ntmps from (by decide +kernel : 1 ≤ Go.Proofs.Try.f58.ntmps))]
  unfold afin
  rw [show acode Go.Proofs.Try.prog CC (draws Go.Proofs.Try.prog CC) K code (args0 [a0]) AHeap.empty = body (args0 [a0]) AHeap.empty from body_eq _ _]
  kernel_rfl
theorem run_sound : Sound Go.Proofs.Try.prog 58 (.pure true run.spec) := by
  refine (sound_copy CS Mixed (draws _ _) K hf hb hok callable).less fun args r h => ?_
  unfold run.spec at h
  split at h
  · rw [run_eq]; exact h
  · cases h
theorem sound : Sound Go.Proofs.Try.prog 58 (.pure true spec) := run_sound.clone (by simp [run.spec, run, body, r0, r1, r2, r3, res, op, lift, areg, aseq, acond, AFr.al, args0, args0L, afinR, res2, abinR, eqRes, copyUpR, copyCell, closeUpR, frzArgs, frz, frzCell, mkRes, abuildSliceR, reps, afill, AV.isCell, AV.flat, AHeap.push, AHeap.set, AHeap.empty, aappendR, rowsOf, chunks]) (by simp [run.spec, run, body, r0, r1, r2, r3, res, op, lift, areg, aseq, acond, AFr.al, args0, args0L, afinR, res2, abinR, eqRes, copyUpR, copyCell, closeUpR, frzArgs, frz, frzCell, mkRes, abuildSliceR, reps, afill, AV.isCell, AV.flat, AHeap.push, AHeap.set, AHeap.empty, aappendR, rowsOf, chunks]) fun r rows h hb => by
  have h1 : ((r :: rows).all fun row => row.all AV.noSlC) = true := List.all_eq_true.2 fun x hx => by
    have := List.all_eq_true.1 h x hx
    simp only [Bool.and_eq_true] at this
    exact this.2
  simp [run.spec, run, body, r0, r1, r2, r3, res, op, lift, areg, aseq, acond, AFr.al, args0, args0L, afinR, res2, abinR, eqRes, copyUpR, copyCell, closeUpR, frzArgs, frz, frzCell, mkRes, abuildSliceR, reps, afill, AV.isCell, AV.flat, AHeap.push, AHeap.set, AHeap.empty, aappendR, rowsOf, chunks, -List.all_eq_true, -List.all_cons, hb, h1]
end slices_Clone_uint16

/-! slices.Clone[[]uint32,uint32] -/
namespace slices_Clone_uint32
noncomputable def code : Code := match Go.Proofs.Try.f59.body with | some c => c | none => .skip
def K : Nat → List Nat
  | 0 => [0]
  | 1 => [0, 4]
  | 2 => [2]
  | 3 => [2]
  | _ => []
noncomputable def CC : Tab := C
theorem CS : CC.Sound Go.Proofs.Try.prog := Tab.Sound.none
theorem body_eq (fr : AFr) (H : AHeap) : acode Go.Proofs.Try.prog C (draws Go.Proofs.Try.prog C) K code fr H = body fr H := by kernel_rfl
theorem callable : Callable Go.Proofs.Try.prog 59 := fun args w => Go.Proofs.Try.call59 args w
theorem hf : Go.Proofs.Try.prog.funcs[59]? = some Go.Proofs.Try.f59 := Go.Proofs.Try.func59
theorem hb : Go.Proofs.Try.f59.body = some code := by kernel_rfl
theorem hok : codeOk Go.Proofs.Try.f59.ntmps code = true := by kernel_rfl
theorem run_eq (a0 : AV) : copyOf Go.Proofs.Try.prog CC (draws Go.Proofs.Try.prog CC) K Go.Proofs.Try.f59 code [a0] = slices_Clone_uint32.run a0 := by
  unfold copyOf arun
  rw [if_pos (show [a0].length ≤ Go.Proofs.Try.f59.ntmps from (by decide +kernel : 1 ≤ Go.Proofs.Try.f59.ntmps))]
  unfold afin
  rw [show acode Go.Proofs.Try.prog CC (draws Go.Proofs.Try.prog CC) K code (args0 [a0]) AHeap.empty = body (args0 [a0]) AHeap.empty from body_eq _ _]
  kernel_rfl
theorem run_sound : Sound Go.Proofs.Try.prog 59 (.pure true run.spec) := by
  refine (sound_copy CS Mixed (draws _ _) K hf hb hok callable).less fun args r h => ?_
  unfold run.spec at h
  split at h
  · rw [run_eq]; exact h
  · cases h
theorem sound : Sound Go.Proofs.Try.prog 59 (.pure true spec) := run_sound.clone (by simp [run.spec, run, body, r0, r1, r2, r3, res, op, lift, areg, aseq, acond, AFr.al, args0, args0L, afinR, res2, abinR, eqRes, copyUpR, copyCell, closeUpR, frzArgs, frz, frzCell, mkRes, abuildSliceR, reps, afill, AV.isCell, AV.flat, AHeap.push, AHeap.set, AHeap.empty, aappendR, rowsOf, chunks]) (by simp [run.spec, run, body, r0, r1, r2, r3, res, op, lift, areg, aseq, acond, AFr.al, args0, args0L, afinR, res2, abinR, eqRes, copyUpR, copyCell, closeUpR, frzArgs, frz, frzCell, mkRes, abuildSliceR, reps, afill, AV.isCell, AV.flat, AHeap.push, AHeap.set, AHeap.empty, aappendR, rowsOf, chunks]) fun r rows h hb => by
  have h1 : ((r :: rows).all fun row => row.all AV.noSlC) = true := List.all_eq_true.2 fun x hx => by
    have := List.all_eq_true.1 h x hx
    simp only [Bool.and_eq_true] at this
    exact this.2
  simp [run.spec, run, body, r0, r1, r2, r3, res, op, lift, areg, aseq, acond, AFr.al, args0, args0L, afinR, res2, abinR, eqRes, copyUpR, copyCell, closeUpR, frzArgs, frz, frzCell, mkRes, abuildSliceR, reps, afill, AV.isCell, AV.flat, AHeap.push, AHeap.set, AHeap.empty, aappendR, rowsOf, chunks, -List.all_eq_true, -List.all_cons, hb, h1]
end slices_Clone_uint32

/-! bauta/mem.New -/
namespace mem_New
noncomputable def code : Code := match Go.Proofs.Try.f21.body with | some c => c | none => .skip
def K : Nat → List Nat
  | 0 => [0, 1, 2]
  | 1 => [6]
  | _ => []
noncomputable def CC : Tab := C slices_Clone_uint16.spec slices_Clone_uint32.spec
theorem CS : CC.Sound Go.Proofs.Try.prog := ((Tab.Sound.none.add slices_Clone_uint16.sound).add slices_Clone_uint32.sound)
theorem body_eq (s0 : SpecP) (s1 : SpecP) (fr : AFr) (H : AHeap) : acode Go.Proofs.Try.prog (C s0 s1) (draws Go.Proofs.Try.prog (C s0 s1)) K code fr H = body s0 s1 fr H := by kernel_rfl
theorem callable : Callable Go.Proofs.Try.prog 21 := fun args w => Go.Proofs.Try.call21 args w
theorem hf : Go.Proofs.Try.prog.funcs[21]? = some Go.Proofs.Try.f21 := Go.Proofs.Try.func21
theorem hb : Go.Proofs.Try.f21.body = some code := by kernel_rfl
theorem hok : codeOk Go.Proofs.Try.f21.ntmps code = true := by kernel_rfl
theorem run_eq (a0 a1 a2 : AV) (H : AHeap) : refOf Go.Proofs.Try.prog CC (draws Go.Proofs.Try.prog CC) K Go.Proofs.Try.f21 code [a0, a1, a2] H = mem_New a0 a1 a2 H := by
  unfold refOf arun
  rw [if_pos (show [a0, a1, a2].length ≤ Go.Proofs.Try.f21.ntmps from (by decide +kernel : 3 ≤ Go.Proofs.Try.f21.ntmps))]
  unfold afin
  rw [show acode Go.Proofs.Try.prog CC (draws Go.Proofs.Try.prog CC) K code (args0 [a0, a1, a2]) H = body slices_Clone_uint16.spec slices_Clone_uint32.spec (args0 [a0, a1, a2]) H from body_eq slices_Clone_uint16.spec slices_Clone_uint32.spec _ _]
  kernel_rfl
theorem sound : Sound Go.Proofs.Try.prog 21 (.ref [true, false, true] spec) := by
  refine (sound_ref CS Mixed (draws _ _) K hf hb hok callable [true, false, true]).lessR fun args H r h => ?_
  unfold spec at h
  split at h
  · rw [run_eq]; exact h
  · cases h
end mem_New

/-! (*bauta/mem.Mem).place -/
namespace mem_Mem_place
noncomputable def code : Code := match Go.Proofs.Try.f61.body with | some c => c | none => .skip
def K : Nat → List Nat
  | 0 => [0, 1]
  | 1 => [0, 1, 6]
  | 2 => [4, 5]
  | _ => []
noncomputable def CC : Tab := C
theorem CS : CC.Sound Go.Proofs.Try.prog := Tab.Sound.none
theorem body_eq (fr : AFr) (H : AHeap) : acode Go.Proofs.Try.prog C (draws Go.Proofs.Try.prog C) K code fr H = body fr H := by kernel_rfl
theorem callable : Callable Go.Proofs.Try.prog 61 := fun args w => Go.Proofs.Try.call61 args w
theorem hf : Go.Proofs.Try.prog.funcs[61]? = some Go.Proofs.Try.f61 := Go.Proofs.Try.func61
theorem hb : Go.Proofs.Try.f61.body = some code := by kernel_rfl
theorem hok : codeOk Go.Proofs.Try.f61.ntmps code = true := by kernel_rfl
theorem run_eq (a0 a1 : AV) (H : AHeap) : refT Go.Proofs.Try.prog CC (draws Go.Proofs.Try.prog CC) K Go.Proofs.Try.f61 code [a0, a1] H = mem_Mem_place a0 a1 H := by
  unfold refT arun
  rw [if_pos (show [a0, a1].length ≤ Go.Proofs.Try.f61.ntmps from (by decide +kernel : 2 ≤ Go.Proofs.Try.f61.ntmps))]
  unfold afin
  rw [show acode Go.Proofs.Try.prog CC (draws Go.Proofs.Try.prog CC) K code (args0 [a0, a1]) H = body (args0 [a0, a1]) H from body_eq _ _]
  kernel_rfl
theorem sound : Sound Go.Proofs.Try.prog 61 (.ref [false, false] spec) := by
  refine (sound_refT CS Mixed (draws _ _) K hf hb hok callable [false, false]).lessR fun args H r h => ?_
  unfold spec at h
  split at h
  · rw [run_eq]; exact h
  · cases h
end mem_Mem_place

/-! (*bauta/mem.Mem).load -/
namespace mem_Mem_load
noncomputable def code : Code := match Go.Proofs.Try.f60.body with | some c => c | none => .skip
def K : Nat → List Nat
  | 0 => [0, 1]
  | 1 => [0, 1, 11]
  | 2 => [4, 5]
  | 3 => [0, 1, 13]
  | 4 => [0, 23]
  | 5 => [4, 5]
  | 6 => [0]
  | 7 => [4, 5]
  | 8 => [0, 1, 6, 7]
  | 9 => [0, 1, 6, 48]
  | 10 => [4, 5]
  | 11 => [0, 8]
  | 12 => [0, 8, 66]
  | 13 => [4, 5]
  | 14 => [4, 5]
  | _ => []
noncomputable def CC : Tab := C mem_Mem_place.spec
theorem CS : CC.Sound Go.Proofs.Try.prog := (Tab.Sound.none.add mem_Mem_place.sound)
theorem body_eq (s0 : SpecM) (fr : AFr) (H : AHeap) : acode Go.Proofs.Try.prog (C s0) (draws Go.Proofs.Try.prog (C s0)) K code fr H = body s0 fr H := by kernel_rfl
theorem callable : Callable Go.Proofs.Try.prog 60 := fun args w => Go.Proofs.Try.call60 args w
theorem hf : Go.Proofs.Try.prog.funcs[60]? = some Go.Proofs.Try.f60 := Go.Proofs.Try.func60
theorem hb : Go.Proofs.Try.f60.body = some code := by kernel_rfl
theorem hok : codeOk Go.Proofs.Try.f60.ntmps code = true := by kernel_rfl
theorem run_eq (a0 a1 : AV) (H : AHeap) : refT Go.Proofs.Try.prog CC (draws Go.Proofs.Try.prog CC) K Go.Proofs.Try.f60 code [a0, a1] H = mem_Mem_load a0 a1 H := by
  unfold refT arun
  rw [if_pos (show [a0, a1].length ≤ Go.Proofs.Try.f60.ntmps from (by decide +kernel : 2 ≤ Go.Proofs.Try.f60.ntmps))]
  unfold afin
  rw [show acode Go.Proofs.Try.prog CC (draws Go.Proofs.Try.prog CC) K code (args0 [a0, a1]) H = body mem_Mem_place.spec (args0 [a0, a1]) H from body_eq mem_Mem_place.spec _ _]
  kernel_rfl
theorem sound : Sound Go.Proofs.Try.prog 60 (.ref [false, false] spec) := by
  refine (sound_refT CS Mixed (draws _ _) K hf hb hok callable [false, false]).lessR fun args H r h => ?_
  unfold spec at h
  split at h
  · rw [run_eq]; exact h
  · cases h
end mem_Mem_load

/-! (*bauta/mem.Mem).Load -/
namespace mem_Mem_Load
noncomputable def code : Code := match Go.Proofs.Try.f22.body with | some c => c | none => .skip
def K : Nat → List Nat
  | 0 => [0, 1]
  | 1 => [0, 6, 7]
  | 2 => [0, 6, 7, 15]
  | 3 => [6, 7]
  | 4 => [4, 5]
  | _ => []
noncomputable def CC : Tab := C mem_Mem_load.spec
theorem CS : CC.Sound Go.Proofs.Try.prog := (Tab.Sound.none.add mem_Mem_load.sound)
theorem body_eq (s0 : SpecM) (fr : AFr) (H : AHeap) : acode Go.Proofs.Try.prog (C s0) (draws Go.Proofs.Try.prog (C s0)) K code fr H = body s0 fr H := by kernel_rfl
theorem callable : Callable Go.Proofs.Try.prog 22 := fun args w => Go.Proofs.Try.call22 args w
theorem hf : Go.Proofs.Try.prog.funcs[22]? = some Go.Proofs.Try.f22 := Go.Proofs.Try.func22
theorem hb : Go.Proofs.Try.f22.body = some code := by kernel_rfl
theorem hok : codeOk Go.Proofs.Try.f22.ntmps code = true := by kernel_rfl
theorem run_eq (a0 a1 : AV) (H : AHeap) : refT Go.Proofs.Try.prog CC (draws Go.Proofs.Try.prog CC) K Go.Proofs.Try.f22 code [a0, a1] H = mem_Mem_Load a0 a1 H := by
  unfold refT arun
  rw [if_pos (show [a0, a1].length ≤ Go.Proofs.Try.f22.ntmps from (by decide +kernel : 2 ≤ Go.Proofs.Try.f22.ntmps))]
  unfold afin
  rw [show acode Go.Proofs.Try.prog CC (draws Go.Proofs.Try.prog CC) K code (args0 [a0, a1]) H = body mem_Mem_load.spec (args0 [a0, a1]) H from body_eq mem_Mem_load.spec _ _]
  kernel_rfl
theorem sound : Sound Go.Proofs.Try.prog 22 (.ref [false, false] spec) := by
  refine (sound_refT CS Mixed (draws _ _) K hf hb hok callable [false, false]).lessR fun args H r h => ?_
  unfold spec at h
  split at h
  · rw [run_eq]; exact h
  · cases h
end mem_Mem_Load

/-! (*bauta/mem.Mem).Bus -/
namespace mem_Mem_Bus
noncomputable def code : Code := match Go.Proofs.Try.f23.body with | some c => c | none => .skip
def K : Nat → List Nat
  | 0 => [0]
  | 1 => [2]
  | _ => []
noncomputable def CC : Tab := C
theorem CS : CC.Sound Go.Proofs.Try.prog := Tab.Sound.none
theorem body_eq (fr : AFr) (H : AHeap) : acode Go.Proofs.Try.prog C (draws Go.Proofs.Try.prog C) K code fr H = body fr H := by kernel_rfl
theorem callable : Callable Go.Proofs.Try.prog 23 := fun args w => Go.Proofs.Try.call23 args w
theorem hf : Go.Proofs.Try.prog.funcs[23]? = some Go.Proofs.Try.f23 := Go.Proofs.Try.func23
theorem hb : Go.Proofs.Try.f23.body = some code := by kernel_rfl
theorem hok : codeOk Go.Proofs.Try.f23.ntmps code = true := by kernel_rfl
theorem run_eq (a0 : AV) (H : AHeap) : refT Go.Proofs.Try.prog CC (draws Go.Proofs.Try.prog CC) K Go.Proofs.Try.f23 code [a0] H = mem_Mem_Bus a0 H := by
  unfold refT arun
  rw [if_pos (show [a0].length ≤ Go.Proofs.Try.f23.ntmps from (by decide +kernel : 1 ≤ Go.Proofs.Try.f23.ntmps))]
  unfold afin
  rw [show acode Go.Proofs.Try.prog CC (draws Go.Proofs.Try.prog CC) K code (args0 [a0]) H = body (args0 [a0]) H from body_eq _ _]
  kernel_rfl
theorem sound : Sound Go.Proofs.Try.prog 23 (.ref [false] spec) := by
  refine (sound_refT CS Mixed (draws _ _) K hf hb hok callable [false]).lessR fun args H r h => ?_
  unfold spec at h
  split at h
  · rw [run_eq]; exact h
  · cases h
end mem_Mem_Bus

/-! (*bauta/mem.Mem).Drawn -/
namespace mem_Mem_Drawn
noncomputable def code : Code := match Go.Proofs.Try.f24.body with | some c => c | none => .skip
def K : Nat → List Nat
  | 0 => [0]
  | 1 => [2]
  | _ => []
noncomputable def CC : Tab := C
theorem CS : CC.Sound Go.Proofs.Try.prog := Tab.Sound.none
theorem body_eq (fr : AFr) (H : AHeap) : acode Go.Proofs.Try.prog C (draws Go.Proofs.Try.prog C) K code fr H = body fr H := by kernel_rfl
theorem callable : Callable Go.Proofs.Try.prog 24 := fun args w => Go.Proofs.Try.call24 args w
theorem hf : Go.Proofs.Try.prog.funcs[24]? = some Go.Proofs.Try.f24 := Go.Proofs.Try.func24
theorem hb : Go.Proofs.Try.f24.body = some code := by kernel_rfl
theorem hok : codeOk Go.Proofs.Try.f24.ntmps code = true := by kernel_rfl
theorem run_eq (a0 : AV) (H : AHeap) : refT Go.Proofs.Try.prog CC (draws Go.Proofs.Try.prog CC) K Go.Proofs.Try.f24 code [a0] H = mem_Mem_Drawn a0 H := by
  unfold refT arun
  rw [if_pos (show [a0].length ≤ Go.Proofs.Try.f24.ntmps from (by decide +kernel : 1 ≤ Go.Proofs.Try.f24.ntmps))]
  unfold afin
  rw [show acode Go.Proofs.Try.prog CC (draws Go.Proofs.Try.prog CC) K code (args0 [a0]) H = body (args0 [a0]) H from body_eq _ _]
  kernel_rfl
theorem sound : Sound Go.Proofs.Try.prog 24 (.ref [false] spec) := by
  refine (sound_refT CS Mixed (draws _ _) K hf hb hok callable [false]).lessR fun args H r h => ?_
  unfold spec at h
  split at h
  · rw [run_eq]; exact h
  · cases h
end mem_Mem_Drawn

/-! (*bauta/mem.Mem).Store -/
namespace mem_Mem_Store
noncomputable def code : Code := match Go.Proofs.Try.f30.body with | some c => c | none => .skip
def K : Nat → List Nat
  | 0 => [0, 1, 2]
  | 1 => [0, 1, 2, 7, 8]
  | 2 => [0, 2, 7, 21]
  | 3 => [6]
  | 4 => []
  | 5 => [6]
  | _ => []
noncomputable def CC : Tab := C mem_Mem_place.spec
theorem CS : CC.Sound Go.Proofs.Try.prog := (Tab.Sound.none.add mem_Mem_place.sound)
theorem body_eq (s0 : SpecM) (fr : AFr) (H : AHeap) : acode Go.Proofs.Try.prog (C s0) (draws Go.Proofs.Try.prog (C s0)) K code fr H = body s0 fr H := by kernel_rfl
theorem callable : Callable Go.Proofs.Try.prog 30 := fun args w => Go.Proofs.Try.call30 args w
theorem hf : Go.Proofs.Try.prog.funcs[30]? = some Go.Proofs.Try.f30 := Go.Proofs.Try.func30
theorem hb : Go.Proofs.Try.f30.body = some code := by kernel_rfl
theorem hok : codeOk Go.Proofs.Try.f30.ntmps code = true := by kernel_rfl
theorem run_eq (a0 a1 a2 : AV) (H : AHeap) : refT Go.Proofs.Try.prog CC (draws Go.Proofs.Try.prog CC) K Go.Proofs.Try.f30 code [a0, a1, a2] H = mem_Mem_Store a0 a1 a2 H := by
  unfold refT arun
  rw [if_pos (show [a0, a1, a2].length ≤ Go.Proofs.Try.f30.ntmps from (by decide +kernel : 3 ≤ Go.Proofs.Try.f30.ntmps))]
  unfold afin
  rw [show acode Go.Proofs.Try.prog CC (draws Go.Proofs.Try.prog CC) K code (args0 [a0, a1, a2]) H = body mem_Mem_place.spec (args0 [a0, a1, a2]) H from body_eq mem_Mem_place.spec _ _]
  kernel_rfl
theorem sound : Sound Go.Proofs.Try.prog 30 (.ref [false, false, false] spec) := by
  refine (sound_refT CS Mixed (draws _ _) K hf hb hok callable [false, false, false]).lessR fun args H r h => ?_
  unfold spec at h
  split at h
  · rw [run_eq]; exact h
  · cases h
end mem_Mem_Store

/-! bauta/bautalaw05.lives -/
namespace law05_lives
noncomputable def code : Code := match Go.Proofs.Try.f25.body with | some c => c | none => .skip
def K : Nat → List Nat
  | 0 => []
  | 1 => [1]
  | 2 => [1, 14]
  | 3 => [0]
  | 4 => [1, 2, 3]
  | 5 => [1, 2, 3, 4, 5]
  | 6 => [0]
  | _ => []
noncomputable def CC : Tab := C mem_New.spec mem_Mem_Store.spec mem_Mem_Load.spec mem_Mem_Bus.spec mem_Mem_Drawn.spec
theorem CS : CC.Sound Go.Proofs.Try.prog := (((((Tab.Sound.none.add mem_New.sound).add mem_Mem_Store.sound).add mem_Mem_Load.sound).add mem_Mem_Bus.sound).add mem_Mem_Drawn.sound)
theorem body_eq (s0 : SpecM) (s1 : SpecM) (s2 : SpecM) (s3 : SpecM) (s4 : SpecM) (fr : AFr) (H : AHeap) : acode Go.Proofs.Try.prog (C s0 s1 s2 s3 s4) (draws Go.Proofs.Try.prog (C s0 s1 s2 s3 s4)) K code fr H = body s0 s1 s2 s3 s4 fr H := by kernel_rfl
theorem callable : Callable Go.Proofs.Try.prog 25 := fun args w => Go.Proofs.Try.call25 args w
theorem hf : Go.Proofs.Try.prog.funcs[25]? = some Go.Proofs.Try.f25 := Go.Proofs.Try.func25
theorem hb : Go.Proofs.Try.f25.body = some code := by kernel_rfl
theorem hok : codeOk Go.Proofs.Try.f25.ntmps code = true := by kernel_rfl
theorem run_eq : pureOf Go.Proofs.Try.prog CC (draws Go.Proofs.Try.prog CC) K Go.Proofs.Try.f25 code [] = law05_lives := by
  unfold pureOf arun
  rw [if_pos (show [].length ≤ Go.Proofs.Try.f25.ntmps from (by decide +kernel : 0 ≤ Go.Proofs.Try.f25.ntmps))]
  unfold afin
  rw [show acode Go.Proofs.Try.prog CC (draws Go.Proofs.Try.prog CC) K code (args0 []) AHeap.empty = body mem_New.spec mem_Mem_Store.spec mem_Mem_Load.spec mem_Mem_Bus.spec mem_Mem_Drawn.spec (args0 []) AHeap.empty from body_eq mem_New.spec mem_Mem_Store.spec mem_Mem_Load.spec mem_Mem_Bus.spec mem_Mem_Drawn.spec _ _]
  kernel_rfl
theorem sound : Sound Go.Proofs.Try.prog 25 (.pure false spec) := by
  refine (sound_pure CS Mixed (draws _ _) K hf hb hok callable).less fun args r h => ?_
  unfold spec at h
  split at h
  · rw [run_eq]; exact h
  · cases h
end law05_lives

/-! bauta/bautalaw05.MemTape -/
namespace law05_MemTape
noncomputable def code : Code := match Go.Proofs.Try.f4.body with | some c => c | none => .skip
def K : Nat → List Nat
  | 0 => [0, 1]
  | 1 => [0, 1]
  | 2 => [0, 1, 5]
  | 3 => [0, 1, 5, 19]
  | 4 => [4]
  | 5 => [0, 1, 5, 6]
  | 6 => [0, 1, 5, 6, 27]
  | 8 => [0, 1, 5, 6, 7, 8]
  | 9 => [0, 1, 5, 6, 7, 8, 38]
  | 10 => [0, 1, 5, 6, 61]
  | 11 => [4]
  | 12 => [0, 1, 5, 6, 74]
  | 13 => [4]
  | 7 => [0, 1, 5, 6]
  | 14 => [4]
  | _ => []
noncomputable def CC : Tab := C law05_short.spec mem_New.spec mem_Mem_Load.spec mem_Mem_Bus.spec mem_Mem_Drawn.spec law05_lives.spec
theorem CS : CC.Sound Go.Proofs.Try.prog := ((((((Tab.Sound.none.add law05_short.sound).add mem_New.sound).add mem_Mem_Load.sound).add mem_Mem_Bus.sound).add mem_Mem_Drawn.sound).add law05_lives.sound)
theorem body_eq (s0 : SpecP) (s1 : SpecM) (s2 : SpecM) (s3 : SpecM) (s4 : SpecM) (s5 : SpecP) (fr : AFr) (H : AHeap) : acode Go.Proofs.Try.prog (C s0 s1 s2 s3 s4 s5) (draws Go.Proofs.Try.prog (C s0 s1 s2 s3 s4 s5)) K code fr H = body s0 s1 s2 s3 s4 s5 fr H := by kernel_rfl
theorem callable : Callable Go.Proofs.Try.prog 4 := fun args w => Go.Proofs.Try.call4 args w
theorem hf : Go.Proofs.Try.prog.funcs[4]? = some Go.Proofs.Try.f4 := Go.Proofs.Try.func4
theorem hb : Go.Proofs.Try.f4.body = some code := by kernel_rfl
theorem hok : codeOk Go.Proofs.Try.f4.ntmps code = true := by kernel_rfl
theorem run_eq (a0 a1 : AV) : pureOf Go.Proofs.Try.prog CC (draws Go.Proofs.Try.prog CC) K Go.Proofs.Try.f4 code [a0, a1] = law05_MemTape a0 a1 := by
  unfold pureOf arun
  rw [if_pos (show [a0, a1].length ≤ Go.Proofs.Try.f4.ntmps from (by decide +kernel : 2 ≤ Go.Proofs.Try.f4.ntmps))]
  unfold afin
  rw [show acode Go.Proofs.Try.prog CC (draws Go.Proofs.Try.prog CC) K code (args0 [a0, a1]) AHeap.empty = body law05_short.spec mem_New.spec mem_Mem_Load.spec mem_Mem_Bus.spec mem_Mem_Drawn.spec law05_lives.spec (args0 [a0, a1]) AHeap.empty from body_eq law05_short.spec mem_New.spec mem_Mem_Load.spec mem_Mem_Bus.spec mem_Mem_Drawn.spec law05_lives.spec _ _]
  kernel_rfl
theorem sound : Sound Go.Proofs.Try.prog 4 (.pure false spec) := by
  refine (sound_pure CS Mixed (draws _ _) K hf hb hok callable).less fun args r h => ?_
  unfold spec at h
  split at h
  · rw [run_eq]; exact h
  · cases h
end law05_MemTape

/-! (*bauta/mem.Mem).Fetch -/
namespace mem_Mem_Fetch
noncomputable def code : Code := match Go.Proofs.Try.f26.body with | some c => c | none => .skip
def K : Nat → List Nat
  | 0 => [0, 1]
  | 1 => [0, 1, 19]
  | 2 => [4, 5]
  | 3 => [4, 5]
  | _ => []
noncomputable def CC : Tab := C
theorem CS : CC.Sound Go.Proofs.Try.prog := Tab.Sound.none
theorem body_eq (fr : AFr) (H : AHeap) : acode Go.Proofs.Try.prog C (draws Go.Proofs.Try.prog C) K code fr H = body fr H := by kernel_rfl
theorem callable : Callable Go.Proofs.Try.prog 26 := fun args w => Go.Proofs.Try.call26 args w
theorem hf : Go.Proofs.Try.prog.funcs[26]? = some Go.Proofs.Try.f26 := Go.Proofs.Try.func26
theorem hb : Go.Proofs.Try.f26.body = some code := by kernel_rfl
theorem hok : codeOk Go.Proofs.Try.f26.ntmps code = true := by kernel_rfl
theorem run_eq (a0 a1 : AV) (H : AHeap) : refT Go.Proofs.Try.prog CC (draws Go.Proofs.Try.prog CC) K Go.Proofs.Try.f26 code [a0, a1] H = mem_Mem_Fetch a0 a1 H := by
  unfold refT arun
  rw [if_pos (show [a0, a1].length ≤ Go.Proofs.Try.f26.ntmps from (by decide +kernel : 2 ≤ Go.Proofs.Try.f26.ntmps))]
  unfold afin
  rw [show acode Go.Proofs.Try.prog CC (draws Go.Proofs.Try.prog CC) K code (args0 [a0, a1]) H = body (args0 [a0, a1]) H from body_eq _ _]
  kernel_rfl
theorem sound : Sound Go.Proofs.Try.prog 26 (.ref [false, false] spec) := by
  refine (sound_refT CS Mixed (draws _ _) K hf hb hok callable [false, false]).lessR fun args H r h => ?_
  unfold spec at h
  split at h
  · rw [run_eq]; exact h
  · cases h
end mem_Mem_Fetch

/-! bauta/bautalaw05.MemFlash -/
namespace law05_MemFlash
noncomputable def code : Code := match Go.Proofs.Try.f5.body with | some c => c | none => .skip
def K : Nat → List Nat
  | 0 => [0, 1]
  | 1 => [0, 1]
  | 2 => [1, 5]
  | 3 => [1, 5, 21]
  | 4 => [4]
  | 5 => [5, 6]
  | 6 => [5, 6, 7, 8]
  | 7 => [5, 6, 7, 8, 9, 10]
  | 8 => [5, 7, 8, 9, 10, 11, 12]
  | 9 => [5, 7, 8, 9, 11, 49]
  | 10 => [4]
  | 11 => [4]
  | _ => []
noncomputable def CC : Tab := C law05_short.spec mem_New.spec mem_Mem_Load.spec mem_Mem_Fetch.spec law05_lives.spec mem_Mem_Bus.spec
theorem CS : CC.Sound Go.Proofs.Try.prog := ((((((Tab.Sound.none.add law05_short.sound).add mem_New.sound).add mem_Mem_Load.sound).add mem_Mem_Fetch.sound).add law05_lives.sound).add mem_Mem_Bus.sound)
theorem body_eq (s0 : SpecP) (s1 : SpecM) (s2 : SpecM) (s3 : SpecM) (s4 : SpecP) (s5 : SpecM) (fr : AFr) (H : AHeap) : acode Go.Proofs.Try.prog (C s0 s1 s2 s3 s4 s5) (draws Go.Proofs.Try.prog (C s0 s1 s2 s3 s4 s5)) K code fr H = body s0 s1 s2 s3 s4 s5 fr H := by kernel_rfl
theorem callable : Callable Go.Proofs.Try.prog 5 := fun args w => Go.Proofs.Try.call5 args w
theorem hf : Go.Proofs.Try.prog.funcs[5]? = some Go.Proofs.Try.f5 := Go.Proofs.Try.func5
theorem hb : Go.Proofs.Try.f5.body = some code := by kernel_rfl
theorem hok : codeOk Go.Proofs.Try.f5.ntmps code = true := by kernel_rfl
theorem run_eq (a0 a1 : AV) : pureOf Go.Proofs.Try.prog CC (draws Go.Proofs.Try.prog CC) K Go.Proofs.Try.f5 code [a0, a1] = law05_MemFlash a0 a1 := by
  unfold pureOf arun
  rw [if_pos (show [a0, a1].length ≤ Go.Proofs.Try.f5.ntmps from (by decide +kernel : 2 ≤ Go.Proofs.Try.f5.ntmps))]
  unfold afin
  rw [show acode Go.Proofs.Try.prog CC (draws Go.Proofs.Try.prog CC) K code (args0 [a0, a1]) AHeap.empty = body law05_short.spec mem_New.spec mem_Mem_Load.spec mem_Mem_Fetch.spec law05_lives.spec mem_Mem_Bus.spec (args0 [a0, a1]) AHeap.empty from body_eq law05_short.spec mem_New.spec mem_Mem_Load.spec mem_Mem_Fetch.spec law05_lives.spec mem_Mem_Bus.spec _ _]
  kernel_rfl
theorem sound : Sound Go.Proofs.Try.prog 5 (.pure false spec) := by
  refine (sound_pure CS Mixed (draws _ _) K hf hb hok callable).less fun args r h => ?_
  unfold spec at h
  split at h
  · rw [run_eq]; exact h
  · cases h
end law05_MemFlash

/-! bauta/bautaref05.New -/
namespace ref05_New
noncomputable def code : Code := match Go.Proofs.Try.f28.body with | some c => c | none => .skip
def K : Nat → List Nat
  | 0 => [0, 1, 2]
  | 1 => [0, 1, 7]
  | 2 => [0, 1, 7, 8]
  | 3 => [0, 1, 7, 8, 21]
  | 5 => [0, 1, 7, 8]
  | 4 => [0, 1, 7, 8]
  | 6 => [1, 7, 38]
  | 7 => [1, 7]
  | 8 => [1, 7, 40]
  | 9 => [7]
  | 10 => [6]
  | _ => []
noncomputable def CC : Tab := C
theorem CS : CC.Sound Go.Proofs.Try.prog := Tab.Sound.none
theorem body_eq (fr : AFr) (H : AHeap) : acode Go.Proofs.Try.prog C (draws Go.Proofs.Try.prog C) K code fr H = body fr H := by kernel_rfl
theorem callable : Callable Go.Proofs.Try.prog 28 := fun args w => Go.Proofs.Try.call28 args w
theorem hf : Go.Proofs.Try.prog.funcs[28]? = some Go.Proofs.Try.f28 := Go.Proofs.Try.func28
theorem hb : Go.Proofs.Try.f28.body = some code := by kernel_rfl
theorem hok : codeOk Go.Proofs.Try.f28.ntmps code = true := by kernel_rfl
theorem run_eq (a0 a1 a2 : AV) (H : AHeap) : refOf Go.Proofs.Try.prog CC (draws Go.Proofs.Try.prog CC) K Go.Proofs.Try.f28 code [a0, a1, a2] H = ref05_New a0 a1 a2 H := by
  unfold refOf arun
  rw [if_pos (show [a0, a1, a2].length ≤ Go.Proofs.Try.f28.ntmps from (by decide +kernel : 3 ≤ Go.Proofs.Try.f28.ntmps))]
  unfold afin
  rw [show acode Go.Proofs.Try.prog CC (draws Go.Proofs.Try.prog CC) K code (args0 [a0, a1, a2]) H = body (args0 [a0, a1, a2]) H from body_eq _ _]
  kernel_rfl
theorem sound : Sound Go.Proofs.Try.prog 28 (.ref [true, false, true] spec) := by
  refine (sound_ref CS Mixed (draws _ _) K hf hb hok callable [true, false, true]).lessR fun args H r h => ?_
  unfold spec at h
  split at h
  · rw [run_eq]; exact h
  · cases h
end ref05_New

/-! (*bauta/bautaref05.Mem).Load -/
namespace ref05_Mem_Load
noncomputable def code : Code := match Go.Proofs.Try.f29.body with | some c => c | none => .skip
def K : Nat → List Nat
  | 0 => [0, 1]
  | 1 => [0, 1, 10]
  | 2 => [4, 5]
  | 3 => [0, 1]
  | 4 => [0, 1, 12]
  | 5 => [0, 22]
  | 6 => [4, 5]
  | 7 => [0, 6]
  | 8 => [0, 1, 54]
  | 9 => [0, 6]
  | 10 => [0, 7]
  | 11 => [0, 7, 74]
  | 12 => [0, 6]
  | 13 => [4, 5]
  | 14 => [6]
  | 15 => [4, 5]
  | _ => []
noncomputable def CC : Tab := C
theorem CS : CC.Sound Go.Proofs.Try.prog := Tab.Sound.none
theorem body_eq (fr : AFr) (H : AHeap) : acode Go.Proofs.Try.prog C (draws Go.Proofs.Try.prog C) K code fr H = body fr H := by kernel_rfl
theorem callable : Callable Go.Proofs.Try.prog 29 := fun args w => Go.Proofs.Try.call29 args w
theorem hf : Go.Proofs.Try.prog.funcs[29]? = some Go.Proofs.Try.f29 := Go.Proofs.Try.func29
theorem hb : Go.Proofs.Try.f29.body = some code := by kernel_rfl
theorem hok : codeOk Go.Proofs.Try.f29.ntmps code = true := by kernel_rfl
theorem run_eq (a0 a1 : AV) (H : AHeap) : refT Go.Proofs.Try.prog CC (draws Go.Proofs.Try.prog CC) K Go.Proofs.Try.f29 code [a0, a1] H = ref05_Mem_Load a0 a1 H := by
  unfold refT arun
  rw [if_pos (show [a0, a1].length ≤ Go.Proofs.Try.f29.ntmps from (by decide +kernel : 2 ≤ Go.Proofs.Try.f29.ntmps))]
  unfold afin
  rw [show acode Go.Proofs.Try.prog CC (draws Go.Proofs.Try.prog CC) K code (args0 [a0, a1]) H = body (args0 [a0, a1]) H from body_eq _ _]
  kernel_rfl
theorem sound : Sound Go.Proofs.Try.prog 29 (.ref [false, false] spec) := by
  refine (sound_refT CS Mixed (draws _ _) K hf hb hok callable [false, false]).lessR fun args H r h => ?_
  unfold spec at h
  split at h
  · rw [run_eq]; exact h
  · cases h
end ref05_Mem_Load

/-! (*bauta/bautaref05.Mem).Store -/
namespace ref05_Mem_Store
noncomputable def code : Code := match Go.Proofs.Try.f31.body with | some c => c | none => .skip
def K : Nat → List Nat
  | 0 => [0, 1, 2]
  | 1 => [0, 1, 2, 25]
  | 2 => [6]
  | 3 => []
  | 4 => [6]
  | _ => []
noncomputable def CC : Tab := C
theorem CS : CC.Sound Go.Proofs.Try.prog := Tab.Sound.none
theorem body_eq (fr : AFr) (H : AHeap) : acode Go.Proofs.Try.prog C (draws Go.Proofs.Try.prog C) K code fr H = body fr H := by kernel_rfl
theorem callable : Callable Go.Proofs.Try.prog 31 := fun args w => Go.Proofs.Try.call31 args w
theorem hf : Go.Proofs.Try.prog.funcs[31]? = some Go.Proofs.Try.f31 := Go.Proofs.Try.func31
theorem hb : Go.Proofs.Try.f31.body = some code := by kernel_rfl
theorem hok : codeOk Go.Proofs.Try.f31.ntmps code = true := by kernel_rfl
theorem run_eq (a0 a1 a2 : AV) (H : AHeap) : refT Go.Proofs.Try.prog CC (draws Go.Proofs.Try.prog CC) K Go.Proofs.Try.f31 code [a0, a1, a2] H = ref05_Mem_Store a0 a1 a2 H := by
  unfold refT arun
  rw [if_pos (show [a0, a1, a2].length ≤ Go.Proofs.Try.f31.ntmps from (by decide +kernel : 3 ≤ Go.Proofs.Try.f31.ntmps))]
  unfold afin
  rw [show acode Go.Proofs.Try.prog CC (draws Go.Proofs.Try.prog CC) K code (args0 [a0, a1, a2]) H = body (args0 [a0, a1, a2]) H from body_eq _ _]
  kernel_rfl
theorem sound : Sound Go.Proofs.Try.prog 31 (.ref [false, false, false] spec) := by
  refine (sound_refT CS Mixed (draws _ _) K hf hb hok callable [false, false, false]).lessR fun args H r h => ?_
  unfold spec at h
  split at h
  · rw [run_eq]; exact h
  · cases h
end ref05_Mem_Store

/-! (*bauta/bautaref05.Mem).Fetch -/
namespace ref05_Mem_Fetch
noncomputable def code : Code := match Go.Proofs.Try.f32.body with | some c => c | none => .skip
def K : Nat → List Nat
  | 0 => [0, 1]
  | 1 => [0, 1, 19]
  | 2 => [4, 5]
  | 3 => [4, 5]
  | _ => []
noncomputable def CC : Tab := C
theorem CS : CC.Sound Go.Proofs.Try.prog := Tab.Sound.none
theorem body_eq (fr : AFr) (H : AHeap) : acode Go.Proofs.Try.prog C (draws Go.Proofs.Try.prog C) K code fr H = body fr H := by kernel_rfl
theorem callable : Callable Go.Proofs.Try.prog 32 := fun args w => Go.Proofs.Try.call32 args w
theorem hf : Go.Proofs.Try.prog.funcs[32]? = some Go.Proofs.Try.f32 := Go.Proofs.Try.func32
theorem hb : Go.Proofs.Try.f32.body = some code := by kernel_rfl
theorem hok : codeOk Go.Proofs.Try.f32.ntmps code = true := by kernel_rfl
theorem run_eq (a0 a1 : AV) (H : AHeap) : refT Go.Proofs.Try.prog CC (draws Go.Proofs.Try.prog CC) K Go.Proofs.Try.f32 code [a0, a1] H = ref05_Mem_Fetch a0 a1 H := by
  unfold refT arun
  rw [if_pos (show [a0, a1].length ≤ Go.Proofs.Try.f32.ntmps from (by decide +kernel : 2 ≤ Go.Proofs.Try.f32.ntmps))]
  unfold afin
  rw [show acode Go.Proofs.Try.prog CC (draws Go.Proofs.Try.prog CC) K code (args0 [a0, a1]) H = body (args0 [a0, a1]) H from body_eq _ _]
  kernel_rfl
theorem sound : Sound Go.Proofs.Try.prog 32 (.ref [false, false] spec) := by
  refine (sound_refT CS Mixed (draws _ _) K hf hb hok callable [false, false]).lessR fun args H r h => ?_
  unfold spec at h
  split at h
  · rw [run_eq]; exact h
  · cases h
end ref05_Mem_Fetch

/-! (*bauta/mem.Mem).there -/
namespace mem_Mem_there
noncomputable def code : Code := match Go.Proofs.Try.f62.body with | some c => c | none => .skip
def K : Nat → List Nat
  | 0 => [0, 1]
  | 1 => [4]
  | _ => []
noncomputable def CC : Tab := C
theorem CS : CC.Sound Go.Proofs.Try.prog := Tab.Sound.none
theorem body_eq (fr : AFr) (H : AHeap) : acode Go.Proofs.Try.prog C (draws Go.Proofs.Try.prog C) K code fr H = body fr H := by kernel_rfl
theorem callable : Callable Go.Proofs.Try.prog 62 := fun args w => Go.Proofs.Try.call62 args w
theorem hf : Go.Proofs.Try.prog.funcs[62]? = some Go.Proofs.Try.f62 := Go.Proofs.Try.func62
theorem hb : Go.Proofs.Try.f62.body = some code := by kernel_rfl
theorem hok : codeOk Go.Proofs.Try.f62.ntmps code = true := by kernel_rfl
theorem run_eq (a0 a1 : AV) (H : AHeap) : refT Go.Proofs.Try.prog CC (draws Go.Proofs.Try.prog CC) K Go.Proofs.Try.f62 code [a0, a1] H = mem_Mem_there a0 a1 H := by
  unfold refT arun
  rw [if_pos (show [a0, a1].length ≤ Go.Proofs.Try.f62.ntmps from (by decide +kernel : 2 ≤ Go.Proofs.Try.f62.ntmps))]
  unfold afin
  rw [show acode Go.Proofs.Try.prog CC (draws Go.Proofs.Try.prog CC) K code (args0 [a0, a1]) H = body (args0 [a0, a1]) H from body_eq _ _]
  kernel_rfl
theorem sound : Sound Go.Proofs.Try.prog 62 (.ref [false, false] spec) := by
  refine (sound_refT CS Mixed (draws _ _) K hf hb hok callable [false, false]).lessR fun args H r h => ?_
  unfold spec at h
  split at h
  · rw [run_eq]; exact h
  · cases h
end mem_Mem_there

/-! (*bauta/mem.Mem).Set -/
namespace mem_Mem_Set
noncomputable def code : Code := match Go.Proofs.Try.f33.body with | some c => c | none => .skip
def K : Nat → List Nat
  | 0 => [0, 1, 2]
  | 1 => [0, 1, 2, 10]
  | 2 => [6]
  | 3 => []
  | 4 => [6]
  | _ => []
noncomputable def CC : Tab := C mem_Mem_there.spec
theorem CS : CC.Sound Go.Proofs.Try.prog := (Tab.Sound.none.add mem_Mem_there.sound)
theorem body_eq (s0 : SpecM) (fr : AFr) (H : AHeap) : acode Go.Proofs.Try.prog (C s0) (draws Go.Proofs.Try.prog (C s0)) K code fr H = body s0 fr H := by kernel_rfl
theorem callable : Callable Go.Proofs.Try.prog 33 := fun args w => Go.Proofs.Try.call33 args w
theorem hf : Go.Proofs.Try.prog.funcs[33]? = some Go.Proofs.Try.f33 := Go.Proofs.Try.func33
theorem hb : Go.Proofs.Try.f33.body = some code := by kernel_rfl
theorem hok : codeOk Go.Proofs.Try.f33.ntmps code = true := by kernel_rfl
theorem run_eq (a0 a1 a2 : AV) (H : AHeap) : refT Go.Proofs.Try.prog CC (draws Go.Proofs.Try.prog CC) K Go.Proofs.Try.f33 code [a0, a1, a2] H = mem_Mem_Set a0 a1 a2 H := by
  unfold refT arun
  rw [if_pos (show [a0, a1, a2].length ≤ Go.Proofs.Try.f33.ntmps from (by decide +kernel : 3 ≤ Go.Proofs.Try.f33.ntmps))]
  unfold afin
  rw [show acode Go.Proofs.Try.prog CC (draws Go.Proofs.Try.prog CC) K code (args0 [a0, a1, a2]) H = body mem_Mem_there.spec (args0 [a0, a1, a2]) H from body_eq mem_Mem_there.spec _ _]
  kernel_rfl
theorem sound : Sound Go.Proofs.Try.prog 33 (.ref [false, false, false] spec) := by
  refine (sound_refT CS Mixed (draws _ _) K hf hb hok callable [false, false, false]).lessR fun args H r h => ?_
  unfold spec at h
  split at h
  · rw [run_eq]; exact h
  · cases h
end mem_Mem_Set

/-! (*bauta/mem.Mem).Words -/
namespace mem_Mem_Words
noncomputable def code : Code := match Go.Proofs.Try.f35.body with | some c => c | none => .skip
def K : Nat → List Nat
  | 0 => [0]
  | 1 => [2]
  | _ => []
noncomputable def CC : Tab := C slices_Clone_uint32.spec
theorem CS : CC.Sound Go.Proofs.Try.prog := (Tab.Sound.none.add slices_Clone_uint32.sound)
theorem body_eq (s0 : SpecP) (fr : AFr) (H : AHeap) : acode Go.Proofs.Try.prog (C s0) (draws Go.Proofs.Try.prog (C s0)) K code fr H = body s0 fr H := by kernel_rfl
theorem callable : Callable Go.Proofs.Try.prog 35 := fun args w => Go.Proofs.Try.call35 args w
theorem hf : Go.Proofs.Try.prog.funcs[35]? = some Go.Proofs.Try.f35 := Go.Proofs.Try.func35
theorem hb : Go.Proofs.Try.f35.body = some code := by kernel_rfl
theorem hok : codeOk Go.Proofs.Try.f35.ntmps code = true := by kernel_rfl
theorem run_eq (a0 : AV) (H : AHeap) : refT Go.Proofs.Try.prog CC (draws Go.Proofs.Try.prog CC) K Go.Proofs.Try.f35 code [a0] H = mem_Mem_Words a0 H := by
  unfold refT arun
  rw [if_pos (show [a0].length ≤ Go.Proofs.Try.f35.ntmps from (by decide +kernel : 1 ≤ Go.Proofs.Try.f35.ntmps))]
  unfold afin
  rw [show acode Go.Proofs.Try.prog CC (draws Go.Proofs.Try.prog CC) K code (args0 [a0]) H = body slices_Clone_uint32.spec (args0 [a0]) H from body_eq slices_Clone_uint32.spec _ _]
  kernel_rfl
theorem sound : Sound Go.Proofs.Try.prog 35 (.ref [false] spec) := by
  refine (sound_refT CS Mixed (draws _ _) K hf hb hok callable [false]).lessR fun args H r h => ?_
  unfold spec at h
  split at h
  · rw [run_eq]; exact h
  · cases h
end mem_Mem_Words

/-! bauta/bautaref05.Same -/
namespace ref05_Same
noncomputable def code : Code := match Go.Proofs.Try.f34.body with | some c => c | none => .skip
def K : Nat → List Nat
  | 0 => [0, 1]
  | 1 => [0, 1, 10]
  | 2 => [4]
  | 3 => [0, 1, 5]
  | 4 => [0, 1, 5, 14]
  | 6 => [0, 1, 5, 25]
  | 7 => [4]
  | 5 => [0, 1, 5]
  | 8 => [4]
  | _ => []
noncomputable def CC : Tab := C
theorem CS : CC.Sound Go.Proofs.Try.prog := Tab.Sound.none
theorem body_eq (fr : AFr) (H : AHeap) : acode Go.Proofs.Try.prog C (draws Go.Proofs.Try.prog C) K code fr H = body fr H := by kernel_rfl
theorem callable : Callable Go.Proofs.Try.prog 34 := fun args w => Go.Proofs.Try.call34 args w
theorem hf : Go.Proofs.Try.prog.funcs[34]? = some Go.Proofs.Try.f34 := Go.Proofs.Try.func34
theorem hb : Go.Proofs.Try.f34.body = some code := by kernel_rfl
theorem hok : codeOk Go.Proofs.Try.f34.ntmps code = true := by kernel_rfl
theorem run_eq (a0 a1 : AV) : pureOf Go.Proofs.Try.prog CC (draws Go.Proofs.Try.prog CC) K Go.Proofs.Try.f34 code [a0, a1] = ref05_Same a0 a1 := by
  unfold pureOf arun
  rw [if_pos (show [a0, a1].length ≤ Go.Proofs.Try.f34.ntmps from (by decide +kernel : 2 ≤ Go.Proofs.Try.f34.ntmps))]
  unfold afin
  rw [show acode Go.Proofs.Try.prog CC (draws Go.Proofs.Try.prog CC) K code (args0 [a0, a1]) AHeap.empty = body (args0 [a0, a1]) AHeap.empty from body_eq _ _]
  kernel_rfl
theorem sound : Sound Go.Proofs.Try.prog 34 (.pure false spec) := by
  refine (sound_pure CS Mixed (draws _ _) K hf hb hok callable).less fun args r h => ?_
  unfold spec at h
  split at h
  · rw [run_eq]; exact h
  · cases h
end ref05_Same

/-! bauta/bautalaw05.MemActs -/
namespace law05_MemActs
noncomputable def code : Code := match Go.Proofs.Try.f7.body with | some c => c | none => .skip
def K : Nat → List Nat
  | 0 => [0, 1, 2]
  | 1 => [0, 1, 2]
  | 2 => [2, 7, 8]
  | 3 => [2, 7, 8, 34]
  | 4 => [6]
  | 5 => [2, 7, 8, 9]
  | 6 => [2, 7, 8, 9, 42]
  | 8 => [2, 7, 8, 9, 10]
  | 9 => [2, 7, 8, 9, 10]
  | 10 => [2, 7, 8, 9, 10, 50]
  | 12 => [2, 7, 8, 9, 10, 50, 51]
  | 13 => [2, 7, 8, 9, 10, 12, 13]
  | 14 => [2, 7, 8, 9, 12, 13, 14, 15]
  | 15 => [2, 7, 8, 9, 11]
  | 16 => [2, 7, 8, 9, 10, 50, 75]
  | 17 => [2, 7, 8, 9, 11]
  | 18 => [2, 7, 8, 9, 10, 50, 90]
  | 19 => [2, 7, 8, 9, 10, 16, 17]
  | 20 => [2, 7, 8, 9, 16, 17, 18, 19]
  | 21 => [2, 7, 8, 9, 11]
  | 22 => [2, 7, 8, 9, 10, 114]
  | 23 => [2, 7, 8, 9, 10, 20]
  | 24 => [2, 7, 8, 9, 10, 11, 20]
  | 25 => [2, 7, 8, 9, 10, 11, 20, 129]
  | 26 => [2, 7, 8, 9, 11]
  | 11 => [2, 7, 8, 9, 11]
  | 27 => [2, 7, 8, 9, 167]
  | 28 => [6]
  | 7 => [2, 7, 8, 9]
  | 29 => [6]
  | _ => []
noncomputable def CC : Tab := C law05_short.spec mem_New.spec ref05_New.spec mem_Mem_Load.spec ref05_Mem_Load.spec mem_Mem_Store.spec ref05_Mem_Store.spec mem_Mem_Fetch.spec ref05_Mem_Fetch.spec mem_Mem_Set.spec mem_Mem_Bus.spec mem_Mem_Drawn.spec mem_Mem_Words.spec ref05_Same.spec law05_lives.spec
theorem CS : CC.Sound Go.Proofs.Try.prog := (((((((((((((((Tab.Sound.none.add law05_short.sound).add mem_New.sound).add ref05_New.sound).add mem_Mem_Load.sound).add ref05_Mem_Load.sound).add mem_Mem_Store.sound).add ref05_Mem_Store.sound).add mem_Mem_Fetch.sound).add ref05_Mem_Fetch.sound).add mem_Mem_Set.sound).add mem_Mem_Bus.sound).add mem_Mem_Drawn.sound).add mem_Mem_Words.sound).add ref05_Same.sound).add law05_lives.sound)
theorem body_eq (s0 : SpecP) (s1 : SpecM) (s2 : SpecM) (s3 : SpecM) (s4 : SpecM) (s5 : SpecM) (s6 : SpecM) (s7 : SpecM) (s8 : SpecM) (s9 : SpecM) (s10 : SpecM) (s11 : SpecM) (s12 : SpecM) (s13 : SpecP) (s14 : SpecP) (fr : AFr) (H : AHeap) : acode Go.Proofs.Try.prog (C s0 s1 s2 s3 s4 s5 s6 s7 s8 s9 s10 s11 s12 s13 s14) (draws Go.Proofs.Try.prog (C s0 s1 s2 s3 s4 s5 s6 s7 s8 s9 s10 s11 s12 s13 s14)) K code fr H = body s0 s1 s2 s3 s4 s5 s6 s7 s8 s9 s10 s11 s12 s13 s14 fr H := by kernel_rfl
theorem callable : Callable Go.Proofs.Try.prog 7 := fun args w => Go.Proofs.Try.call7 args w
theorem hf : Go.Proofs.Try.prog.funcs[7]? = some Go.Proofs.Try.f7 := Go.Proofs.Try.func7
theorem hb : Go.Proofs.Try.f7.body = some code := by kernel_rfl
theorem hok : codeOk Go.Proofs.Try.f7.ntmps code = true := by kernel_rfl
theorem run_eq (a0 a1 a2 : AV) : pureOf Go.Proofs.Try.prog CC (draws Go.Proofs.Try.prog CC) K Go.Proofs.Try.f7 code [a0, a1, a2] = law05_MemActs a0 a1 a2 := by
  unfold pureOf arun
  rw [if_pos (show [a0, a1, a2].length ≤ Go.Proofs.Try.f7.ntmps from (by decide +kernel : 3 ≤ Go.Proofs.Try.f7.ntmps))]
  unfold afin
  rw [show acode Go.Proofs.Try.prog CC (draws Go.Proofs.Try.prog CC) K code (args0 [a0, a1, a2]) AHeap.empty = body law05_short.spec mem_New.spec ref05_New.spec mem_Mem_Load.spec ref05_Mem_Load.spec mem_Mem_Store.spec ref05_Mem_Store.spec mem_Mem_Fetch.spec ref05_Mem_Fetch.spec mem_Mem_Set.spec mem_Mem_Bus.spec mem_Mem_Drawn.spec mem_Mem_Words.spec ref05_Same.spec law05_lives.spec (args0 [a0, a1, a2]) AHeap.empty from body_eq law05_short.spec mem_New.spec ref05_New.spec mem_Mem_Load.spec ref05_Mem_Load.spec mem_Mem_Store.spec ref05_Mem_Store.spec mem_Mem_Fetch.spec ref05_Mem_Fetch.spec mem_Mem_Set.spec mem_Mem_Bus.spec mem_Mem_Drawn.spec mem_Mem_Words.spec ref05_Same.spec law05_lives.spec _ _]
  kernel_rfl
theorem sound : Sound Go.Proofs.Try.prog 7 (.pure false spec) := by
  refine (sound_pure CS Mixed (draws _ _) K hf hb hok callable).less fun args r h => ?_
  unfold spec at h
  split at h
  · rw [run_eq]; exact h
  · cases h
end law05_MemActs

/-! (*bauta/mem.Mem).Word -/
namespace mem_Mem_Word
noncomputable def code : Code := match Go.Proofs.Try.f36.body with | some c => c | none => .skip
def K : Nat → List Nat
  | 0 => [0, 1]
  | 1 => [0, 1, 9]
  | 2 => [4, 5]
  | 3 => [4, 5]
  | _ => []
noncomputable def CC : Tab := C mem_Mem_there.spec
theorem CS : CC.Sound Go.Proofs.Try.prog := (Tab.Sound.none.add mem_Mem_there.sound)
theorem body_eq (s0 : SpecM) (fr : AFr) (H : AHeap) : acode Go.Proofs.Try.prog (C s0) (draws Go.Proofs.Try.prog (C s0)) K code fr H = body s0 fr H := by kernel_rfl
theorem callable : Callable Go.Proofs.Try.prog 36 := fun args w => Go.Proofs.Try.call36 args w
theorem hf : Go.Proofs.Try.prog.funcs[36]? = some Go.Proofs.Try.f36 := Go.Proofs.Try.func36
theorem hb : Go.Proofs.Try.f36.body = some code := by kernel_rfl
theorem hok : codeOk Go.Proofs.Try.f36.ntmps code = true := by kernel_rfl
theorem run_eq (a0 a1 : AV) (H : AHeap) : refT Go.Proofs.Try.prog CC (draws Go.Proofs.Try.prog CC) K Go.Proofs.Try.f36 code [a0, a1] H = mem_Mem_Word a0 a1 H := by
  unfold refT arun
  rw [if_pos (show [a0, a1].length ≤ Go.Proofs.Try.f36.ntmps from (by decide +kernel : 2 ≤ Go.Proofs.Try.f36.ntmps))]
  unfold afin
  rw [show acode Go.Proofs.Try.prog CC (draws Go.Proofs.Try.prog CC) K code (args0 [a0, a1]) H = body mem_Mem_there.spec (args0 [a0, a1]) H from body_eq mem_Mem_there.spec _ _]
  kernel_rfl
theorem sound : Sound Go.Proofs.Try.prog 36 (.ref [false, false] spec) := by
  refine (sound_refT CS Mixed (draws _ _) K hf hb hok callable [false, false]).lessR fun args H r h => ?_
  unfold spec at h
  split at h
  · rw [run_eq]; exact h
  · cases h
end mem_Mem_Word

/-! bauta/bautalaw05.MemWords -/
namespace law05_MemWords
noncomputable def code : Code := match Go.Proofs.Try.f8.body with | some c => c | none => .skip
def K : Nat → List Nat
  | 0 => [0, 1, 2]
  | 1 => [0, 1, 2, 7]
  | 2 => [0, 1, 2, 7, 19]
  | 3 => [6]
  | 4 => [1, 2, 7, 8]
  | 5 => [1, 2, 7, 8, 22]
  | 6 => [1, 2, 7, 8]
  | 7 => [1, 2, 7, 8, 24]
  | 8 => [1, 2, 7, 8]
  | 9 => [1, 2, 7, 8, 9]
  | 10 => [1, 2, 7, 8, 9, 30]
  | 11 => [6]
  | 12 => [1, 2, 7, 8, 9, 10]
  | 13 => [1, 2, 7, 8, 9, 10, 33]
  | 15 => [1, 2, 7, 8, 9, 10, 40]
  | 16 => [6]
  | 14 => [1, 2, 7, 8, 9, 10]
  | 17 => [1, 2, 7, 8, 11]
  | 18 => [1, 2, 7, 8, 11, 12, 13]
  | 19 => [1, 2, 7, 8, 80]
  | 20 => [6]
  | 21 => [1, 2, 7, 8, 14, 15]
  | 22 => [6]
  | _ => []
noncomputable def CC : Tab := C mem_New.spec mem_Mem_Words.spec mem_Mem_Set.spec mem_Mem_Word.spec mem_Mem_Load.spec mem_Mem_Drawn.spec law05_lives.spec
theorem CS : CC.Sound Go.Proofs.Try.prog := (((((((Tab.Sound.none.add mem_New.sound).add mem_Mem_Words.sound).add mem_Mem_Set.sound).add mem_Mem_Word.sound).add mem_Mem_Load.sound).add mem_Mem_Drawn.sound).add law05_lives.sound)
theorem body_eq (s0 : SpecM) (s1 : SpecM) (s2 : SpecM) (s3 : SpecM) (s4 : SpecM) (s5 : SpecM) (s6 : SpecP) (fr : AFr) (H : AHeap) : acode Go.Proofs.Try.prog (C s0 s1 s2 s3 s4 s5 s6) (draws Go.Proofs.Try.prog (C s0 s1 s2 s3 s4 s5 s6)) K code fr H = body s0 s1 s2 s3 s4 s5 s6 fr H := by kernel_rfl
theorem callable : Callable Go.Proofs.Try.prog 8 := fun args w => Go.Proofs.Try.call8 args w
theorem hf : Go.Proofs.Try.prog.funcs[8]? = some Go.Proofs.Try.f8 := Go.Proofs.Try.func8
theorem hb : Go.Proofs.Try.f8.body = some code := by kernel_rfl
theorem hok : codeOk Go.Proofs.Try.f8.ntmps code = true := by kernel_rfl
theorem run_eq (a0 a1 a2 : AV) : pureOf Go.Proofs.Try.prog CC (draws Go.Proofs.Try.prog CC) K Go.Proofs.Try.f8 code [a0, a1, a2] = law05_MemWords a0 a1 a2 := by
  unfold pureOf arun
  rw [if_pos (show [a0, a1, a2].length ≤ Go.Proofs.Try.f8.ntmps from (by decide +kernel : 3 ≤ Go.Proofs.Try.f8.ntmps))]
  unfold afin
  rw [show acode Go.Proofs.Try.prog CC (draws Go.Proofs.Try.prog CC) K code (args0 [a0, a1, a2]) AHeap.empty = body mem_New.spec mem_Mem_Words.spec mem_Mem_Set.spec mem_Mem_Word.spec mem_Mem_Load.spec mem_Mem_Drawn.spec law05_lives.spec (args0 [a0, a1, a2]) AHeap.empty from body_eq mem_New.spec mem_Mem_Words.spec mem_Mem_Set.spec mem_Mem_Word.spec mem_Mem_Load.spec mem_Mem_Drawn.spec law05_lives.spec _ _]
  kernel_rfl
theorem sound : Sound Go.Proofs.Try.prog 8 (.pure false spec) := by
  refine (sound_pure CS Mixed (draws _ _) K hf hb hok callable).less fun args r h => ?_
  unfold spec at h
  split at h
  · rw [run_eq]; exact h
  · cases h
end law05_MemWords

/-! bauta/bautalaw05.short -/
namespace law05_short_ref
noncomputable def code : Code := match Go.Proofs.Try.f20.body with | some c => c | none => .skip
def K : Nat → List Nat
  | 0 => [0, 1]
  | 1 => [0, 1, 8]
  | 2 => [0, 1]
  | 3 => [0, 1, 13]
  | 4 => [0, 1]
  | 5 => [4, 5]
  | _ => []
noncomputable def CC : Tab := C
theorem CS : CC.Sound Go.Proofs.Try.prog := Tab.Sound.none
theorem body_eq (fr : AFr) (H : AHeap) : acode Go.Proofs.Try.prog C (draws Go.Proofs.Try.prog C) K code fr H = body fr H := by kernel_rfl
theorem callable : Callable Go.Proofs.Try.prog 20 := fun args w => Go.Proofs.Try.call20 args w
theorem hf : Go.Proofs.Try.prog.funcs[20]? = some Go.Proofs.Try.f20 := Go.Proofs.Try.func20
theorem hb : Go.Proofs.Try.f20.body = some code := by kernel_rfl
theorem hok : codeOk Go.Proofs.Try.f20.ntmps code = true := by kernel_rfl
theorem run_eq (a0 a1 : AV) (H : AHeap) : refOf Go.Proofs.Try.prog CC (draws Go.Proofs.Try.prog CC) K Go.Proofs.Try.f20 code [a0, a1] H = law05_short_ref a0 a1 H := by
  unfold refOf arun
  rw [if_pos (show [a0, a1].length ≤ Go.Proofs.Try.f20.ntmps from (by decide +kernel : 2 ≤ Go.Proofs.Try.f20.ntmps))]
  unfold afin
  rw [show acode Go.Proofs.Try.prog CC (draws Go.Proofs.Try.prog CC) K code (args0 [a0, a1]) H = body (args0 [a0, a1]) H from body_eq _ _]
  kernel_rfl
theorem sound : Sound Go.Proofs.Try.prog 20 (.ref [true, true] spec) := by
  refine (sound_ref CS Mixed (draws _ _) K hf hb hok callable [true, true]).lessR fun args H r h => ?_
  unfold spec at h
  split at h
  · rw [run_eq]; exact h
  · cases h
end law05_short_ref

/-! bauta/mem.New -/
namespace mem_New_refn
noncomputable def code : Code := match Go.Proofs.Try.f21.body with | some c => c | none => .skip
def K : Nat → List Nat
  | 0 => [0, 1, 2]
  | 1 => [6]
  | _ => []
noncomputable def CC : Tab := C slices_Clone_uint16.spec slices_Clone_uint32.spec
theorem CS : CC.Sound Go.Proofs.Try.prog := ((Tab.Sound.none.add slices_Clone_uint16.sound).add slices_Clone_uint32.sound)
theorem body_eq (s0 : SpecP) (s1 : SpecP) (fr : AFr) (H : AHeap) : acode Go.Proofs.Try.prog (C s0 s1) (draws Go.Proofs.Try.prog (C s0 s1)) K code fr H = body s0 s1 fr H := by kernel_rfl
theorem callable : Callable Go.Proofs.Try.prog 21 := fun args w => Go.Proofs.Try.call21 args w
theorem hf : Go.Proofs.Try.prog.funcs[21]? = some Go.Proofs.Try.f21 := Go.Proofs.Try.func21
theorem hb : Go.Proofs.Try.f21.body = some code := by kernel_rfl
theorem hok : codeOk Go.Proofs.Try.f21.ntmps code = true := by kernel_rfl
theorem run_eq (a0 a1 a2 : AV) (H : AHeap) : refOf Go.Proofs.Try.prog CC (draws Go.Proofs.Try.prog CC) K Go.Proofs.Try.f21 code [a0, a1, a2] H = mem_New_refn a0 a1 a2 H := by
  unfold refOf arun
  rw [if_pos (show [a0, a1, a2].length ≤ Go.Proofs.Try.f21.ntmps from (by decide +kernel : 3 ≤ Go.Proofs.Try.f21.ntmps))]
  unfold afin
  rw [show acode Go.Proofs.Try.prog CC (draws Go.Proofs.Try.prog CC) K code (args0 [a0, a1, a2]) H = body slices_Clone_uint16.spec slices_Clone_uint32.spec (args0 [a0, a1, a2]) H from body_eq slices_Clone_uint16.spec slices_Clone_uint32.spec _ _]
  kernel_rfl
theorem sound : Sound Go.Proofs.Try.prog 21 (.ref [false, false, false] spec) := by
  refine (sound_ref CS Mixed (draws _ _) K hf hb hok callable [false, false, false]).lessR fun args H r h => ?_
  unfold spec at h
  split at h
  · rw [run_eq]; exact h
  · cases h
end mem_New_refn

/-! slices.Clone[[]uint32,uint32] -/
namespace slices_Clone_uint32_refn
noncomputable def code : Code := match Go.Proofs.Try.f59.body with | some c => c | none => .skip
def K : Nat → List Nat
  | 0 => [0]
  | 1 => [0, 4]
  | 2 => [2]
  | 3 => [2]
  | _ => []
noncomputable def CC : Tab := C
theorem CS : CC.Sound Go.Proofs.Try.prog := Tab.Sound.none
theorem body_eq (fr : AFr) (H : AHeap) : acode Go.Proofs.Try.prog C (draws Go.Proofs.Try.prog C) K code fr H = body fr H := by kernel_rfl
theorem callable : Callable Go.Proofs.Try.prog 59 := fun args w => Go.Proofs.Try.call59 args w
theorem hf : Go.Proofs.Try.prog.funcs[59]? = some Go.Proofs.Try.f59 := Go.Proofs.Try.func59
theorem hb : Go.Proofs.Try.f59.body = some code := by kernel_rfl
theorem hok : codeOk Go.Proofs.Try.f59.ntmps code = true := by kernel_rfl
theorem run_eq (a0 : AV) (H : AHeap) : refOf Go.Proofs.Try.prog CC (draws Go.Proofs.Try.prog CC) K Go.Proofs.Try.f59 code [a0] H = slices_Clone_uint32_refn a0 H := by
  unfold refOf arun
  rw [if_pos (show [a0].length ≤ Go.Proofs.Try.f59.ntmps from (by decide +kernel : 1 ≤ Go.Proofs.Try.f59.ntmps))]
  unfold afin
  rw [show acode Go.Proofs.Try.prog CC (draws Go.Proofs.Try.prog CC) K code (args0 [a0]) H = body (args0 [a0]) H from body_eq _ _]
  kernel_rfl
theorem sound : Sound Go.Proofs.Try.prog 59 (.ref [false] spec) := by
  refine (sound_ref CS Mixed (draws _ _) K hf hb hok callable [false]).lessR fun args H r h => ?_
  unfold spec at h
  split at h
  · rw [run_eq]; exact h
  · cases h
end slices_Clone_uint32_refn

/-! (*bauta/mem.Mem).Words -/
namespace mem_Mem_Words_ref
noncomputable def code : Code := match Go.Proofs.Try.f35.body with | some c => c | none => .skip
def K : Nat → List Nat
  | 0 => [0]
  | 1 => [2]
  | _ => []
noncomputable def CC : Tab := C slices_Clone_uint32_refn.spec
theorem CS : CC.Sound Go.Proofs.Try.prog := (Tab.Sound.none.add slices_Clone_uint32_refn.sound)
theorem body_eq (s0 : SpecM) (fr : AFr) (H : AHeap) : acode Go.Proofs.Try.prog (C s0) (draws Go.Proofs.Try.prog (C s0)) K code fr H = body s0 fr H := by kernel_rfl
theorem callable : Callable Go.Proofs.Try.prog 35 := fun args w => Go.Proofs.Try.call35 args w
theorem hf : Go.Proofs.Try.prog.funcs[35]? = some Go.Proofs.Try.f35 := Go.Proofs.Try.func35
theorem hb : Go.Proofs.Try.f35.body = some code := by kernel_rfl
theorem hok : codeOk Go.Proofs.Try.f35.ntmps code = true := by kernel_rfl
theorem run_eq (a0 : AV) (H : AHeap) : refOf Go.Proofs.Try.prog CC (draws Go.Proofs.Try.prog CC) K Go.Proofs.Try.f35 code [a0] H = mem_Mem_Words_ref a0 H := by
  unfold refOf arun
  rw [if_pos (show [a0].length ≤ Go.Proofs.Try.f35.ntmps from (by decide +kernel : 1 ≤ Go.Proofs.Try.f35.ntmps))]
  unfold afin
  rw [show acode Go.Proofs.Try.prog CC (draws Go.Proofs.Try.prog CC) K code (args0 [a0]) H = body slices_Clone_uint32_refn.spec (args0 [a0]) H from body_eq slices_Clone_uint32_refn.spec _ _]
  kernel_rfl
theorem sound : Sound Go.Proofs.Try.prog 35 (.ref [false] spec) := by
  refine (sound_ref CS Mixed (draws _ _) K hf hb hok callable [false]).lessR fun args H r h => ?_
  unfold spec at h
  split at h
  · rw [run_eq]; exact h
  · cases h
end mem_Mem_Words_ref

/-! bauta/bautalaw05.MemOwn -/
namespace law05_MemOwn
noncomputable def code : Code := match Go.Proofs.Try.f9.body with | some c => c | none => .skip
def K : Nat → List Nat
  | 0 => [0, 1, 2]
  | 1 => [0, 1, 2]
  | 2 => [0, 1, 2, 7]
  | 3 => [0, 1, 2, 7, 33]
  | 4 => [6]
  | 5 => [0, 1, 2, 7, 8]
  | 6 => [0, 1, 2, 7, 8, 36]
  | 7 => [0, 1, 2, 7, 8]
  | 8 => [0, 1, 2, 7, 8]
  | 9 => [0, 1, 2, 7, 8, 9]
  | 10 => [0, 1, 2, 7, 8, 9, 47]
  | 11 => [0, 1, 2, 7, 8, 9]
  | 12 => [0, 1, 2, 7, 8, 9]
  | 13 => [0, 1, 2, 7, 8, 9, 10]
  | 14 => [0, 1, 2, 7, 8, 9, 10, 60]
  | 15 => [6]
  | 16 => [0, 1, 2, 7, 8, 9]
  | 17 => [0, 1, 2, 7, 8, 9, 11, 12]
  | 18 => [0, 1, 2, 7, 8, 9, 11, 12, 13, 14]
  | 19 => [0, 1, 2, 8, 9, 11, 12, 13, 14, 15]
  | 20 => [6]
  | _ => []
noncomputable def CC : Tab := C law05_short_ref.spec mem_New_refn.spec mem_Mem_Set.spec mem_Mem_Words_ref.spec mem_Mem_Fetch.spec mem_Mem_Load.spec mem_Mem_Word.spec law05_lives.spec
theorem CS : CC.Sound Go.Proofs.Try.prog := ((((((((Tab.Sound.none.add law05_short_ref.sound).add mem_New_refn.sound).add mem_Mem_Set.sound).add mem_Mem_Words_ref.sound).add mem_Mem_Fetch.sound).add mem_Mem_Load.sound).add mem_Mem_Word.sound).add law05_lives.sound)
theorem body_eq (s0 : SpecM) (s1 : SpecM) (s2 : SpecM) (s3 : SpecM) (s4 : SpecM) (s5 : SpecM) (s6 : SpecM) (s7 : SpecP) (fr : AFr) (H : AHeap) : acode Go.Proofs.Try.prog (C s0 s1 s2 s3 s4 s5 s6 s7) (draws Go.Proofs.Try.prog (C s0 s1 s2 s3 s4 s5 s6 s7)) K code fr H = body s0 s1 s2 s3 s4 s5 s6 s7 fr H := by kernel_rfl
theorem callable : Callable Go.Proofs.Try.prog 9 := fun args w => Go.Proofs.Try.call9 args w
theorem hf : Go.Proofs.Try.prog.funcs[9]? = some Go.Proofs.Try.f9 := Go.Proofs.Try.func9
theorem hb : Go.Proofs.Try.f9.body = some code := by kernel_rfl
theorem hok : codeOk Go.Proofs.Try.f9.ntmps code = true := by kernel_rfl
theorem run_eq (a0 a1 a2 : AV) : pureOf Go.Proofs.Try.prog CC (draws Go.Proofs.Try.prog CC) K Go.Proofs.Try.f9 code [a0, a1, a2] = law05_MemOwn a0 a1 a2 := by
  unfold pureOf arun
  rw [if_pos (show [a0, a1, a2].length ≤ Go.Proofs.Try.f9.ntmps from (by decide +kernel : 3 ≤ Go.Proofs.Try.f9.ntmps))]
  unfold afin
  rw [show acode Go.Proofs.Try.prog CC (draws Go.Proofs.Try.prog CC) K code (args0 [a0, a1, a2]) AHeap.empty = body law05_short_ref.spec mem_New_refn.spec mem_Mem_Set.spec mem_Mem_Words_ref.spec mem_Mem_Fetch.spec mem_Mem_Load.spec mem_Mem_Word.spec law05_lives.spec (args0 [a0, a1, a2]) AHeap.empty from body_eq law05_short_ref.spec mem_New_refn.spec mem_Mem_Set.spec mem_Mem_Words_ref.spec mem_Mem_Fetch.spec mem_Mem_Load.spec mem_Mem_Word.spec law05_lives.spec _ _]
  kernel_rfl
theorem sound : Sound Go.Proofs.Try.prog 9 (.pure false spec) := by
  refine (sound_pure CS Mixed (draws _ _) K hf hb hok callable).less fun args r h => ?_
  unfold spec at h
  split at h
  · rw [run_eq]; exact h
  · cases h
end law05_MemOwn

end Go.Abs
