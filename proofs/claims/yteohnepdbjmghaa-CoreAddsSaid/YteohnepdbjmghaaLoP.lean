import Derived.Test.YteohnepdbjmghaaLoF
import Derived.Test.YteohnepdbjmghaaP0
section
set_option linter.unusedSimpArgs false
set_option linter.unusedVariables false
namespace Go.Abs
namespace thumb_shapes
def K : Nat → List Nat
  | 0 => [0, 2]
  | 1 => [0, 2, 3, 4, 5]
  | 2 => [0, 2, 3, 4, 5, 6, 7]
  | 3 => [0, 2, 3, 4, 5, 6, 7, 13]
  | 4 => [0, 2, 3, 4, 5, 6, 7, 13, 14]
  | 5 => [0, 2, 3, 4, 5, 6, 7, 13, 14]
  | 6 => [0, 2, 3, 4, 5, 6, 7, 13, 14]
  | 7 => [0, 2, 3, 4, 5, 6, 7, 13, 14]
  | 8 => [2]
  | 9 => [0, 2, 3, 4, 5, 6, 7, 13, 28]
  | 10 => [2]
  | 11 => [0, 2, 3, 4, 5, 6, 7, 13, 35]
  | 12 => [0, 2, 3, 4, 5, 6, 7, 13, 35]
  | 13 => [2]
  | 14 => [0, 2, 3, 4, 5, 6, 7, 13, 47]
  | 15 => [0, 2, 3, 4, 5, 6, 7, 13, 47]
  | 16 => [2]
  | 17 => [0, 2, 3, 4, 5, 6, 7, 13, 60]
  | 18 => [0, 2, 3, 4, 5, 6, 7, 13, 60]
  | 19 => [2]
  | 20 => [2, 3, 4, 5, 6, 7, 13, 73]
  | 21 => [2]
  | 22 => [2, 3, 4, 5, 6, 13, 80]
  | 23 => [2]
  | 24 => [2, 3, 4, 5, 6, 13, 87]
  | 25 => [2]
  | 26 => [2, 3, 4, 5, 6, 13, 94]
  | 27 => [2]
  | 28 => [2, 3, 4, 5, 6, 13, 101]
  | 29 => [2]
  | 30 => [2, 6, 13, 108]
  | 31 => [2]
  | 32 => [2, 6, 13, 114]
  | 33 => [2]
  | 34 => [2, 6, 13, 119]
  | 35 => [2]
  | 36 => [2, 6, 125]
  | 37 => [2]
  | 38 => [2]
  | _ => []
theorem body_eq (fr : AFr) (H : AHeap) : acode tp C (draws tp C) K (co Go.Proofs.Try.f65) fr H = body fr H := by kernel_rfl
theorem sound : Sound tp 65 (.pure false spec) := sayP Tab.Sound.none Go.Proofs.Try.func65 (by kernel_rfl) (by kernel_rfl) (fun a w => Go.Proofs.Try.call65 a w) body_eq 1 (by decide +kernel) (g := res) (fun fr H => by kernel_rfl) (ts := some [[none, none, none, none, none, none, none, none, none, none, none, none]]) (by kernel_rfl) fun args r h => by
  unfold spec at h; split at h <;> first | exact ⟨rfl, h⟩ | cases h
end thumb_shapes
namespace thumb_field
def K : Nat → List Nat
  | 0 => [0, 1]
  | 1 => [0, 5]
  | 2 => [0, 5, 6]
  | 3 => [0, 5, 6]
  | 4 => [4]
  | 5 => [0, 5, 12]
  | 6 => [4]
  | 7 => [0, 17]
  | 8 => [4]
  | 9 => [4]
  | _ => []
theorem body_eq (fr : AFr) (H : AHeap) : acode tp C (draws tp C) K (co Go.Proofs.Try.f66) fr H = body fr H := by kernel_rfl
theorem sound : Sound tp 66 (.ref [false, false] spec) := sayR Tab.Sound.none Go.Proofs.Try.func66 (by kernel_rfl) (by kernel_rfl) (fun a w => Go.Proofs.Try.call66 a w) body_eq 2 (by decide +kernel) (g := res) (fun fr H => by kernel_rfl) fun args H r h => by
  unfold spec at h; split at h <;> first | exact ⟨rfl, h⟩ | cases h
end thumb_field
namespace thumb_can
def K : Nat → List Nat
  | 0 => [1]
  | 1 => [1, 15]
  | 2 => [2]
  | 3 => [1, 3]
  | 4 => [1, 3, 30]
  | 5 => [2]
  | 6 => [1, 3, 4]
  | 7 => [1, 4, 33, 34]
  | 8 => [1, 4, 33, 34, 35]
  | 9 => [1, 4, 6, 33, 34]
  | 10 => [1, 4, 6, 7, 33, 34]
  | 11 => [1, 4, 6, 7, 33, 34, 42]
  | 12 => [1, 4, 6, 7, 33, 34, 46]
  | 13 => [1, 4, 6, 33, 34, 46]
  | 14 => [2]
  | 15 => [1, 4, 33, 34]
  | 16 => [1, 4, 33, 34]
  | 17 => [2]
  | _ => []
theorem body_eq (s0 : SpecP) (s1 : SpecM) (fr : AFr) (H : AHeap) : acode tp (C s0 s1) (draws tp (C s0 s1)) K (co Go.Proofs.Try.f59) fr H = body s0 s1 fr H := by kernel_rfl
theorem sound : Sound tp 59 (.pure false spec) := sayP ((Tab.Sound.none.add thumb_shapes.sound).add thumb_field.sound) Go.Proofs.Try.func59 (by kernel_rfl) (by kernel_rfl) (fun a w => Go.Proofs.Try.call59 a w) (body_eq thumb_shapes.spec thumb_field.spec) 1 (by decide +kernel) (g := res) (fun fr H => by kernel_rfl) (ts := some [[none]]) (by kernel_rfl) fun args r h => by
  unfold spec at h; split at h <;> first | exact ⟨rfl, h⟩ | cases h
end thumb_can
namespace thumb_put
def K : Nat → List Nat
  | 0 => [1]
  | 1 => [1, 3]
  | 2 => [1, 3, 4]
  | 3 => [1, 4, 13, 14]
  | 4 => [1, 4, 13, 14, 15]
  | 5 => [1, 4, 6, 13, 14]
  | 6 => [1, 4, 6, 13, 14, 19]
  | 7 => [1, 4, 13, 14]
  | 8 => [1, 4, 13, 14]
  | 9 => [2]
  | _ => []
theorem body_eq (s0 : SpecP) (s1 : SpecM) (fr : AFr) (H : AHeap) : acode tp (C s0 s1) (draws tp (C s0 s1)) K (co Go.Proofs.Try.f67) fr H = body s0 s1 fr H := by kernel_rfl
theorem sound : Sound tp 67 (.pure false spec) := sayP ((Tab.Sound.none.add thumb_shapes.sound).add thumb_field.sound) Go.Proofs.Try.func67 (by kernel_rfl) (by kernel_rfl) (fun a w => Go.Proofs.Try.call67 a w) (body_eq thumb_shapes.spec thumb_field.spec) 1 (by decide +kernel) (g := res) (fun fr H => by kernel_rfl) (ts := some [[none]]) (by kernel_rfl) fun args r h => by
  unfold spec at h; split at h <;> first | exact ⟨rfl, h⟩ | cases h
end thumb_put
namespace thumb_Take
def K : Nat → List Nat
  | 0 => [0, 2]
  | 1 => [0, 2, 10]
  | 2 => [0, 2, 10, 11]
  | 3 => [0, 2, 4, 10]
  | 4 => [0, 2, 5, 6, 10]
  | 5 => [0, 2, 5, 6, 10, 18, 19]
  | 6 => [0, 2, 5, 6, 10, 18, 19, 20]
  | 7 => [0, 2, 5, 6, 8, 10, 18, 19]
  | 8 => [0, 2, 5, 6, 8, 10, 18, 19, 24]
  | 9 => [0, 2, 5, 6, 8, 9, 10, 18, 19]
  | 10 => [0, 2, 5, 6, 8, 9, 10, 18, 19, 35]
  | 11 => [0, 2, 5, 6, 8, 9, 10, 18, 19]
  | 12 => [0, 2, 5, 6, 8, 9, 10, 18, 19, 55]
  | 13 => [0, 2, 5, 6, 8, 9, 10, 18, 19]
  | 14 => [0, 2, 5, 6, 10, 18, 19]
  | 15 => [0, 2, 5, 6, 10, 18, 19]
  | 16 => [0, 2, 6, 10, 83]
  | 17 => [2, 3]
  | 18 => [0, 2, 10]
  | 19 => [2, 3]
  | _ => []
theorem body_eq (s0 : SpecP) (s1 : SpecM) (s2 s3 : SpecP) (fr : AFr) (H : AHeap) : acode tp (C s0 s1 s2 s3) (draws tp (C s0 s1 s2 s3)) K (co Go.Proofs.Try.f21) fr H = body s0 s1 s2 s3 fr H := by kernel_rfl
theorem sound : Sound tp 21 (.pure false spec) := sayP ((((Tab.Sound.none.add thumb_shapes.sound).add thumb_field.sound).add thumb_can.sound).add thumb_put.sound) Go.Proofs.Try.func21 (by kernel_rfl) (by kernel_rfl) (fun a w => Go.Proofs.Try.call21 a w) (body_eq thumb_shapes.spec thumb_field.spec thumb_can.spec thumb_put.spec) 1 (by decide +kernel) (g := res) (fun fr H => by kernel_rfl) (ts := some [[none, none, none, none, none], [none]]) (by kernel_rfl) fun args r h => by
  unfold spec at h; split at h <;> first | exact ⟨rfl, h⟩ | cases h
end thumb_Take
namespace thumb_Writes
def K : Nat → List Nat
  | 0 => [1]
  | 1 => [1, 6]
  | 2 => [2, 3]
  | 3 => [1, 8]
  | 4 => [1, 8, 9]
  | 5 => [1, 8, 9]
  | 6 => [1, 8, 9]
  | 7 => [1, 8, 9]
  | 8 => [1, 8, 9]
  | 9 => [1, 8, 9]
  | 10 => [1, 8, 9]
  | 11 => [2, 3]
  | 12 => [1, 17]
  | 13 => [1, 31]
  | 14 => [2, 3]
  | 15 => [2, 3]
  | _ => []
theorem body_eq (s0 : SpecP) (fr : AFr) (H : AHeap) : acode tp (C s0) (draws tp (C s0)) K (co Go.Proofs.Try.f15) fr H = body s0 fr H := by kernel_rfl
theorem sound : Sound tp 15 (.pure false spec) := sayP (Tab.Sound.none.add thumb_can.sound) Go.Proofs.Try.func15 (by kernel_rfl) (by kernel_rfl) (fun a w => Go.Proofs.Try.call15 a w) (body_eq thumb_can.spec) 1 (by decide +kernel) (g := res) (fun fr H => by kernel_rfl) (ts := some [[none], [none]]) (by kernel_rfl) fun args r h => by
  unfold spec at h; split at h <;> first | exact ⟨rfl, h⟩ | cases h
end thumb_Writes
end Go.Abs
end
section
set_option linter.unusedSimpArgs false
set_option linter.unusedVariables false
end
section
set_option linter.unusedSimpArgs false
set_option linter.unusedVariables false
namespace Go.Abs
namespace slices_Clone_uint16
noncomputable def code : Code := match Go.Proofs.Try.f94.body with | some c => c | none => .skip
def K : Nat → List Nat
  | 0 => [0]
  | 1 => [0, 4]
  | 2 => [2]
  | 3 => [2]
  | _ => []
noncomputable def CC : Tab := C
theorem CS : CC.Sound Go.Proofs.Try.prog := Tab.Sound.none
theorem body_eq (fr : AFr) (H : AHeap) : acode Go.Proofs.Try.prog C (draws Go.Proofs.Try.prog C) K code fr H = body fr H := by kernel_rfl
theorem callable : Callable Go.Proofs.Try.prog 94 := fun args w => Go.Proofs.Try.call94 args w
theorem hf : Go.Proofs.Try.prog.funcs[94]? = some Go.Proofs.Try.f94 := Go.Proofs.Try.func94
theorem hb : Go.Proofs.Try.f94.body = some code := by kernel_rfl
theorem hok : codeOk Go.Proofs.Try.f94.ntmps code = true := by kernel_rfl
theorem run_eq (a0 : AV) : copyOf Go.Proofs.Try.prog CC (draws Go.Proofs.Try.prog CC) K Go.Proofs.Try.f94 code [a0] = slices_Clone_uint16.run a0 := by
  unfold copyOf arun
  rw [if_pos (show [a0].length ≤ Go.Proofs.Try.f94.ntmps from (by decide +kernel : 1 ≤ Go.Proofs.Try.f94.ntmps))]
  unfold afin
  rw [show acode Go.Proofs.Try.prog CC (draws Go.Proofs.Try.prog CC) K code (args0 [a0]) AHeap.empty = body (args0 [a0]) AHeap.empty from body_eq _ _]
  kernel_rfl
theorem run_sound : Sound Go.Proofs.Try.prog 94 (.pure true run.spec) := by
  refine (sound_copy CS Mixed (draws _ _) K hf hb hok callable).less fun args r h => ?_
  unfold run.spec at h
  split at h
  · rw [run_eq]; exact h
  · cases h
theorem sound : Sound Go.Proofs.Try.prog 94 (.pure true spec) := run_sound.clone (by simp [run.spec, run, body, r0, r1, r2, r3, res, op, lift, areg, aseq, acond, AFr.al, args0, args0L, afinR, res2, abinR, eqRes, copyUpR, copyCell, closeUpR, frzArgs, frz, frzCell, mkRes, abuildSliceR, reps, afill, AV.isCell, AV.flat, AHeap.push, AHeap.set, AHeap.empty, aappendR, rowsOf, chunks]) (by simp [run.spec, run, body, r0, r1, r2, r3, res, op, lift, areg, aseq, acond, AFr.al, args0, args0L, afinR, res2, abinR, eqRes, copyUpR, copyCell, closeUpR, frzArgs, frz, frzCell, mkRes, abuildSliceR, reps, afill, AV.isCell, AV.flat, AHeap.push, AHeap.set, AHeap.empty, aappendR, rowsOf, chunks]) fun r rows h hb => by
  have h1 : ((r :: rows).all fun row => row.all AV.noSlC) = true := List.all_eq_true.2 fun x hx => by
    have := List.all_eq_true.1 h x hx
    simp only [Bool.and_eq_true] at this
    exact this.2
  simp [run.spec, run, body, r0, r1, r2, r3, res, op, lift, areg, aseq, acond, AFr.al, args0, args0L, afinR, res2, abinR, eqRes, copyUpR, copyCell, closeUpR, frzArgs, frz, frzCell, mkRes, abuildSliceR, reps, afill, AV.isCell, AV.flat, AHeap.push, AHeap.set, AHeap.empty, aappendR, rowsOf, chunks, -List.all_eq_true, -List.all_cons, hb, h1]
end slices_Clone_uint16
namespace slices_Clone_uint32
noncomputable def code : Code := match Go.Proofs.Try.f95.body with | some c => c | none => .skip
def K : Nat → List Nat
  | 0 => [0]
  | 1 => [0, 4]
  | 2 => [2]
  | 3 => [2]
  | _ => []
noncomputable def CC : Tab := C
theorem CS : CC.Sound Go.Proofs.Try.prog := Tab.Sound.none
theorem body_eq (fr : AFr) (H : AHeap) : acode Go.Proofs.Try.prog C (draws Go.Proofs.Try.prog C) K code fr H = body fr H := by kernel_rfl
theorem callable : Callable Go.Proofs.Try.prog 95 := fun args w => Go.Proofs.Try.call95 args w
theorem hf : Go.Proofs.Try.prog.funcs[95]? = some Go.Proofs.Try.f95 := Go.Proofs.Try.func95
theorem hb : Go.Proofs.Try.f95.body = some code := by kernel_rfl
theorem hok : codeOk Go.Proofs.Try.f95.ntmps code = true := by kernel_rfl
theorem run_eq (a0 : AV) : copyOf Go.Proofs.Try.prog CC (draws Go.Proofs.Try.prog CC) K Go.Proofs.Try.f95 code [a0] = slices_Clone_uint32.run a0 := by
  unfold copyOf arun
  rw [if_pos (show [a0].length ≤ Go.Proofs.Try.f95.ntmps from (by decide +kernel : 1 ≤ Go.Proofs.Try.f95.ntmps))]
  unfold afin
  rw [show acode Go.Proofs.Try.prog CC (draws Go.Proofs.Try.prog CC) K code (args0 [a0]) AHeap.empty = body (args0 [a0]) AHeap.empty from body_eq _ _]
  kernel_rfl
theorem run_sound : Sound Go.Proofs.Try.prog 95 (.pure true run.spec) := by
  refine (sound_copy CS Mixed (draws _ _) K hf hb hok callable).less fun args r h => ?_
  unfold run.spec at h
  split at h
  · rw [run_eq]; exact h
  · cases h
theorem sound : Sound Go.Proofs.Try.prog 95 (.pure true spec) := run_sound.clone (by simp [run.spec, run, body, r0, r1, r2, r3, res, op, lift, areg, aseq, acond, AFr.al, args0, args0L, afinR, res2, abinR, eqRes, copyUpR, copyCell, closeUpR, frzArgs, frz, frzCell, mkRes, abuildSliceR, reps, afill, AV.isCell, AV.flat, AHeap.push, AHeap.set, AHeap.empty, aappendR, rowsOf, chunks]) (by simp [run.spec, run, body, r0, r1, r2, r3, res, op, lift, areg, aseq, acond, AFr.al, args0, args0L, afinR, res2, abinR, eqRes, copyUpR, copyCell, closeUpR, frzArgs, frz, frzCell, mkRes, abuildSliceR, reps, afill, AV.isCell, AV.flat, AHeap.push, AHeap.set, AHeap.empty, aappendR, rowsOf, chunks]) fun r rows h hb => by
  have h1 : ((r :: rows).all fun row => row.all AV.noSlC) = true := List.all_eq_true.2 fun x hx => by
    have := List.all_eq_true.1 h x hx
    simp only [Bool.and_eq_true] at this
    exact this.2
  simp [run.spec, run, body, r0, r1, r2, r3, res, op, lift, areg, aseq, acond, AFr.al, args0, args0L, afinR, res2, abinR, eqRes, copyUpR, copyCell, closeUpR, frzArgs, frz, frzCell, mkRes, abuildSliceR, reps, afill, AV.isCell, AV.flat, AHeap.push, AHeap.set, AHeap.empty, aappendR, rowsOf, chunks, -List.all_eq_true, -List.all_cons, hb, h1]
end slices_Clone_uint32
namespace mem_New
def K : Nat → List Nat
  | 0 => [0, 1, 2]
  | 1 => [6]
  | _ => []
theorem body_eq (s0 s1 : SpecP) (fr : AFr) (H : AHeap) : acode tp (C s0 s1) (draws tp (C s0 s1)) K (co Go.Proofs.Try.f45) fr H = body s0 s1 fr H := by kernel_rfl
theorem sound : Sound tp 45 (.ref [true, false, true] spec) := sayR ((Tab.Sound.none.add slices_Clone_uint16.sound).add slices_Clone_uint32.sound) Go.Proofs.Try.func45 (by kernel_rfl) (by kernel_rfl) (fun a w => Go.Proofs.Try.call45 a w) (body_eq slices_Clone_uint16.spec slices_Clone_uint32.spec) 3 (by decide +kernel) (g := res) (fun fr H => by kernel_rfl) fun args H r h => by
  unfold spec at h; split at h <;> first | exact ⟨rfl, h⟩ | cases h
end mem_New
namespace mem_Mem_Fetch
def K : Nat → List Nat
  | 0 => [0, 1]
  | 1 => [0, 1, 19]
  | 2 => [4, 5]
  | 3 => [4, 5]
  | _ => []
theorem body_eq (fr : AFr) (H : AHeap) : acode tp C (draws tp C) K (co Go.Proofs.Try.f90) fr H = body fr H := by kernel_rfl
theorem sound : Sound tp 90 (.ref [false, false] spec) := sayT Tab.Sound.none Go.Proofs.Try.func90 (by kernel_rfl) (by kernel_rfl) (fun a w => Go.Proofs.Try.call90 a w) body_eq 2 (by decide +kernel) (g := res) (fun fr H => by kernel_rfl) fun args H r h => by
  unfold spec at h; split at h <;> first | exact ⟨rfl, h⟩ | cases h
end mem_Mem_Fetch
namespace mem_Mem_place
def K : Nat → List Nat
  | 0 => [0, 1]
  | 1 => [0, 1, 6]
  | 2 => [4, 5]
  | _ => []
theorem body_eq (fr : AFr) (H : AHeap) : acode tp C (draws tp C) K (co Go.Proofs.Try.f169) fr H = body fr H := by kernel_rfl
theorem sound : Sound tp 169 (.ref [false, false] spec) := sayT Tab.Sound.none Go.Proofs.Try.func169 (by kernel_rfl) (by kernel_rfl) (fun a w => Go.Proofs.Try.call169 a w) body_eq 2 (by decide +kernel) (g := res) (fun fr H => by kernel_rfl) fun args H r h => by
  unfold spec at h; split at h <;> first | exact ⟨rfl, h⟩ | cases h
end mem_Mem_place
namespace mem_Mem_Store
def K : Nat → List Nat
  | 0 => [0, 1, 2]
  | 1 => [0, 1, 2, 7, 8]
  | 2 => [0, 2, 7, 21]
  | 3 => [6]
  | 4 => []
  | 5 => [6]
  | _ => []
theorem body_eq (s0 : SpecM) (fr : AFr) (H : AHeap) : acode tp (C s0) (draws tp (C s0)) K (co Go.Proofs.Try.f125) fr H = body s0 fr H := by kernel_rfl
theorem sound : Sound tp 125 (.ref [false, false, false] spec) := sayT (Tab.Sound.none.add mem_Mem_place.sound) Go.Proofs.Try.func125 (by kernel_rfl) (by kernel_rfl) (fun a w => Go.Proofs.Try.call125 a w) (body_eq mem_Mem_place.spec) 3 (by decide +kernel) (g := res) (fun fr H => by kernel_rfl) fun args H r h => by
  unfold spec at h; split at h <;> first | exact ⟨rfl, h⟩ | cases h
end mem_Mem_Store
namespace mem_Mem_load
def K : Nat → List Nat
  | 0 => [0, 1]
  | 1 => [0, 1, 11]
  | 2 => [4, 5]
  | 3 => [0, 1, 13]
  | 4 => [0, 23]
  | 5 => [4, 5]
  | 6 => [0]
  | 7 => [4, 5]
  | 8 => [0, 1, 6, 7]
  | 9 => [0, 1, 6, 48]
  | 10 => [4, 5]
  | 11 => [0, 8]
  | 12 => [0, 8, 66]
  | 13 => [4, 5]
  | 14 => [4, 5]
  | _ => []
theorem body_eq (s0 : SpecM) (fr : AFr) (H : AHeap) : acode tp (C s0) (draws tp (C s0)) K (co Go.Proofs.Try.f170) fr H = body s0 fr H := by kernel_rfl
theorem sound : Sound tp 170 (.ref [false, false] spec) := sayT (Tab.Sound.none.add mem_Mem_place.sound) Go.Proofs.Try.func170 (by kernel_rfl) (by kernel_rfl) (fun a w => Go.Proofs.Try.call170 a w) (body_eq mem_Mem_place.spec) 2 (by decide +kernel) (g := res) (fun fr H => by kernel_rfl) fun args H r h => by
  unfold spec at h; split at h <;> first | exact ⟨rfl, h⟩ | cases h
end mem_Mem_load
namespace mem_Mem_Load
def K : Nat → List Nat
  | 0 => [0, 1]
  | 1 => [0, 6, 7]
  | 2 => [0, 6, 7, 15]
  | 3 => [6, 7]
  | 4 => [4, 5]
  | _ => []
theorem body_eq (s0 : SpecM) (fr : AFr) (H : AHeap) : acode tp (C s0) (draws tp (C s0)) K (co Go.Proofs.Try.f127) fr H = body s0 fr H := by kernel_rfl
theorem sound : Sound tp 127 (.ref [false, false] spec) := sayT (Tab.Sound.none.add mem_Mem_load.sound) Go.Proofs.Try.func127 (by kernel_rfl) (by kernel_rfl) (fun a w => Go.Proofs.Try.call127 a w) (body_eq mem_Mem_load.spec) 2 (by decide +kernel) (g := res) (fun fr H => by kernel_rfl) fun args H r h => by
  unfold spec at h; split at h <;> first | exact ⟨rfl, h⟩ | cases h
end mem_Mem_Load
end Go.Abs
end
section
set_option linter.unusedSimpArgs false
set_option linter.unusedVariables false
end
section
set_option linter.unusedSimpArgs false
set_option linter.unusedVariables false
namespace Go.Abs
namespace math_bits_Add32
def K : Nat → List Nat
  | 0 => [0, 1, 2]
  | 1 => [8]
  | 2 => [6, 8]
  | 3 => [6, 7]
  | _ => []
theorem body_eq (fr : AFr) (H : AHeap) : acode tp C (draws tp C) K (co Go.Proofs.Try.f188) fr H = body fr H := by kernel_rfl
theorem sound : Sound tp 188 (.pure false spec) := sayP Tab.Sound.none Go.Proofs.Try.func188 (by kernel_rfl) (by kernel_rfl) (fun a w => Go.Proofs.Try.call188 a w) body_eq 3 (by decide +kernel) (g := res) (fun fr H => by kernel_rfl) (ts := some [[none], [none]]) (by kernel_rfl) fun args r h => by
  unfold spec at h; split at h <;> first | exact ⟨rfl, h⟩ | cases h
end math_bits_Add32
namespace word_Add
def K : Nat → List Nat
  | 0 => [0, 1, 2]
  | 1 => [0, 1, 2, 9]
  | 2 => [0, 1, 9, 12]
  | 3 => [0, 1, 9]
  | 4 => [0, 1, 10, 11]
  | 5 => [6, 7, 8]
  | _ => []
theorem body_eq (s0 : SpecP) (fr : AFr) (H : AHeap) : acode tp (C s0) (draws tp (C s0)) K (co Go.Proofs.Try.f171) fr H = body s0 fr H := by kernel_rfl
theorem sound : Sound tp 171 (.pure false spec) := sayP (Tab.Sound.none.add math_bits_Add32.sound) Go.Proofs.Try.func171 (by kernel_rfl) (by kernel_rfl) (fun a w => Go.Proofs.Try.call171 a w) (body_eq math_bits_Add32.spec) 3 (by decide +kernel) (g := res) (fun fr H => by kernel_rfl) (ts := some [[none], [none], [none]]) (by kernel_rfl) fun args r h => by
  unfold spec at h; split at h <;> first | exact ⟨rfl, h⟩ | cases h
end word_Add
namespace math_bits_RotateLeft32
def K : Nat → List Nat
  | 0 => [0, 1]
  | 1 => [0, 5]
  | 2 => [4]
  | _ => []
theorem body_eq (fr : AFr) (H : AHeap) : acode tp C (draws tp C) K (co Go.Proofs.Try.f189) fr H = body fr H := by kernel_rfl
theorem sound : Sound tp 189 (.pure false spec) := sayP Tab.Sound.none Go.Proofs.Try.func189 (by kernel_rfl) (by kernel_rfl) (fun a w => Go.Proofs.Try.call189 a w) body_eq 2 (by decide +kernel) (g := res) (fun fr H => by kernel_rfl) (ts := some [[none]]) (by kernel_rfl) fun args r h => by
  unfold spec at h; split at h <;> first | exact ⟨rfl, h⟩ | cases h
end math_bits_RotateLeft32
namespace word_Shift
def K : Nat → List Nat
  | 0 => [0, 1, 2, 3]
  | 1 => [0, 1, 2, 3, 19]
  | 2 => [8, 9]
  | 3 => [1, 2, 22]
  | 4 => [1, 2, 22, 23]
  | 5 => [8, 9]
  | 6 => [1, 2, 22, 38]
  | 7 => [8, 9]
  | 8 => [1, 2, 22, 53]
  | 9 => [1, 2]
  | 10 => [8, 9]
  | 11 => [1, 2, 70]
  | 12 => [1]
  | 13 => [8, 9]
  | 14 => [8, 9]
  | _ => []
theorem body_eq (s0 : SpecP) (fr : AFr) (H : AHeap) : acode tp (C s0) (draws tp (C s0)) K (co Go.Proofs.Try.f172) fr H = body s0 fr H := by kernel_rfl
theorem sound : Sound tp 172 (.pure false spec) := sayP (Tab.Sound.none.add math_bits_RotateLeft32.sound) Go.Proofs.Try.func172 (by kernel_rfl) (by kernel_rfl) (fun a w => Go.Proofs.Try.call172 a w) (body_eq math_bits_RotateLeft32.spec) 4 (by decide +kernel) (g := res) (fun fr H => by kernel_rfl) (ts := some [[none], [none]]) (by kernel_rfl) fun args r h => by
  unfold spec at h; split at h <;> first | exact ⟨rfl, h⟩ | cases h
end word_Shift
end Go.Abs
end
section
set_option linter.unusedSimpArgs false
set_option linter.unusedVariables false
namespace Go.Abs
namespace ref01_Bits
def K : Nat → List Nat
  | 0 => [0]
  | 1 => [0, 3]
  | 2 => [0, 3, 4]
  | 3 => [0, 3, 4, 7]
  | 5 => [0, 3, 4]
  | 6 => [0, 3, 4]
  | 4 => [0, 3, 4]
  | 7 => [2]
  | _ => []
theorem body_eq (fr : AFr) (H : AHeap) : acode tp C (draws tp C) K (co Go.Proofs.Try.f96) fr H = body fr H := by kernel_rfl
theorem sound : Sound tp 96 (.pure false spec) := sayP Tab.Sound.none Go.Proofs.Try.func96 (by kernel_rfl) (by kernel_rfl) (fun a w => Go.Proofs.Try.call96 a w) body_eq 1 (by decide +kernel) (g := res) (fun fr H => by kernel_rfl) (ts := some [[some 1]]) (by kernel_rfl) fun args r h => by
  unfold spec at h; split at h <;> first | exact ⟨rfl, h⟩ | cases h
end ref01_Bits
namespace ref01_Word
def K : Nat → List Nat
  | 0 => [0]
  | 1 => [0, 3]
  | 2 => [0, 3, 4]
  | 3 => [0, 3, 4, 9]
  | 5 => [0, 3, 4]
  | 6 => [0, 3, 4, 17]
  | 7 => [0, 3, 4]
  | 4 => [0, 3, 4]
  | 8 => [2]
  | _ => []
theorem body_eq (fr : AFr) (H : AHeap) : acode tp C (draws tp C) K (co Go.Proofs.Try.f97) fr H = body fr H := by kernel_rfl
theorem sound : Sound tp 97 (.pure false spec) := sayP Tab.Sound.none Go.Proofs.Try.func97 (by kernel_rfl) (by kernel_rfl) (fun a w => Go.Proofs.Try.call97 a w) body_eq 1 (by decide +kernel) (g := res) (fun fr H => by kernel_rfl) (ts := some [[none]]) (by kernel_rfl) fun args r h => by
  unfold spec at h; split at h <;> first | exact ⟨rfl, h⟩ | cases h
end ref01_Word
namespace ref01_Add
def K : Nat → List Nat
  | 0 => [0, 1, 2]
  | 1 => [2, 9, 10, 11]
  | 2 => [2, 9, 10, 11, 12]
  | 3 => [2, 9, 10, 11, 12, 20]
  | 5 => [2, 9, 10, 11, 12, 13]
  | 6 => [2, 9, 10, 11, 12, 13, 26]
  | 7 => [2, 9, 10, 11, 12, 13]
  | 8 => [2, 9, 10, 11, 12, 13, 32]
  | 9 => [2, 9, 10, 11, 12, 13]
  | 10 => [9, 10, 11, 12, 13, 35]
  | 11 => [9, 10, 11, 12, 13]
  | 12 => [2, 9, 10, 11, 12]
  | 4 => [2, 9, 10, 11, 12]
  | 13 => [6, 7, 8]
  | _ => []
theorem body_eq (s0 s1 : SpecP) (fr : AFr) (H : AHeap) : acode tp (C s0 s1) (draws tp (C s0 s1)) K (co Go.Proofs.Try.f46) fr H = body s0 s1 fr H := by kernel_rfl
theorem sound : Sound tp 46 (.pure false spec) := sayP ((Tab.Sound.none.add ref01_Bits.sound).add ref01_Word.sound) Go.Proofs.Try.func46 (by kernel_rfl) (by kernel_rfl) (fun a w => Go.Proofs.Try.call46 a w) (body_eq ref01_Bits.spec ref01_Word.spec) 3 (by decide +kernel) (g := res) (fun fr H => by kernel_rfl) (ts := some [[none], [none], [none]]) (by kernel_rfl) fun args r h => by
  unfold spec at h; split at h <;> first | exact ⟨rfl, h⟩ | cases h
end ref01_Add
end Go.Abs
end
