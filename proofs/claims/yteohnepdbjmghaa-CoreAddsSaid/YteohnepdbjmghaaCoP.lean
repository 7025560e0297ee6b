/-
  That the program's functions are these. Printed by gen.py.
-/
import Derived.Test.YteohnepdbjmghaaCoF
import Derived.Test.YteohnepdbjmghaaLoP
set_option linter.unusedSimpArgs false
set_option linter.unusedVariables false
namespace Go.Abs
namespace core_holds
def K : Nat → List Nat
  | 0 => [0, 3]
  | 1 => [0, 3, 5]
  | 2 => [0, 3, 5, 7]
  | 3 => [0, 3, 5, 7, 8]
  | 4 => [0, 5]
  | 5 => [0, 3, 5, 7, 12]
  | 6 => [0, 5]
  | 7 => [0, 3, 5, 7, 16]
  | 8 => [0, 5]
  | 9 => [0, 3, 5, 7, 20]
  | 10 => [0, 5]
  | 11 => [0, 3, 5, 7, 24]
  | 12 => [0, 5]
  | 13 => [0, 3, 5, 7, 33]
  | 14 => [0, 5]
  | 15 => [0, 3, 5, 40]
  | 16 => [0, 5]
  | 17 => [4]
  | _ => []
theorem body_eq (fr : AFr) (H : AHeap) : acode tp C (draws tp C) K (co Go.Proofs.Try.f91) fr H = body fr H := by kernel_rfl
theorem sound : Sound tp 91 (.pure false spec) := sayP Tab.Sound.none Go.Proofs.Try.func91 (by kernel_rfl) (by kernel_rfl) (fun a w => Go.Proofs.Try.call91 a w) body_eq 2 (by decide +kernel) (g := res) (fun fr H => by kernel_rfl) (ts := some [[none]]) (by kernel_rfl) fun args r h => by
  unfold spec at h; split at h <;> first | exact ⟨rfl, h⟩ | cases h
end core_holds
namespace core_addr
def K : Nat → List Nat
  | 0 => [2, 3]
  | 1 => [2, 3, 6]
  | 2 => [2, 3, 6, 7]
  | 3 => [2, 3, 6, 7]
  | 4 => [4]
  | 5 => [2, 3, 21]
  | 6 => [4]
  | 7 => [4]
  | _ => []
theorem body_eq (fr : AFr) (H : AHeap) : acode tp C (draws tp C) K (co Go.Proofs.Try.f126) fr H = body fr H := by kernel_rfl
theorem sound : Sound tp 126 (.pure false spec) := sayP Tab.Sound.none Go.Proofs.Try.func126 (by kernel_rfl) (by kernel_rfl) (fun a w => Go.Proofs.Try.call126 a w) body_eq 2 (by decide +kernel) (g := res) (fun fr H => by kernel_rfl) (ts := some [[none]]) (by kernel_rfl) fun args r h => by
  unfold spec at h; split at h <;> first | exact ⟨rfl, h⟩ | cases h
end core_addr
namespace core_moves
def K : Nat → List Nat
  | 0 => [2, 3, 4, 6]
  | 1 => [2, 3, 4, 6, 17]
  | 2 => [6, 7]
  | 3 => [3, 4, 6, 8, 9]
  | 4 => [3, 4, 6, 8, 9, 38]
  | 5 => [3, 6, 9]
  | 6 => [6, 7]
  | _ => []
theorem body_eq (s0 : SpecP) (s1 s2 : SpecM) (fr : AFr) (H : AHeap) : acode tp (C s0 s1 s2) (draws tp (C s0 s1 s2)) K (co Go.Proofs.Try.f92) fr H = body s0 s1 s2 fr H := by kernel_rfl
theorem sound : Sound tp 92 (.ref [true, true, false] spec) := sayT (((Tab.Sound.none.add core_addr.sound).add mem_Mem_Store.sound).add mem_Mem_Load.sound) Go.Proofs.Try.func92 (by kernel_rfl) (by kernel_rfl) (fun a w => Go.Proofs.Try.call92 a w) (body_eq core_addr.spec mem_Mem_Store.spec mem_Mem_Load.spec) 3 (by decide +kernel) (g := res) (fun fr H => by kernel_rfl) fun args H r h => by
  unfold spec at h; split at h <;> first | exact ⟨rfl, h⟩ | cases h
end core_moves
namespace core_flags
def K : Nat → List Nat
  | 0 => [1, 2, 4]
  | 1 => [2, 4]
  | 2 => [4]
  | _ => []
theorem body_eq (fr : AFr) (H : AHeap) : acode tp C (draws tp C) K (co Go.Proofs.Try.f128) fr H = body fr H := by kernel_rfl
theorem sound : Sound tp 128 (.pure false spec) := sayP Tab.Sound.none Go.Proofs.Try.func128 (by kernel_rfl) (by kernel_rfl) (fun a w => Go.Proofs.Try.call128 a w) body_eq 2 (by decide +kernel) (g := res) (fun fr H => by kernel_rfl) (ts := some [[none, none, none, none, none, none, none, none, none, none, none, none, none]]) (by kernel_rfl) fun args r h => by
  unfold spec at h; split at h <;> first | exact ⟨rfl, h⟩ | cases h
end core_flags
namespace core_add
def K : Nat → List Nat
  | 0 => [1, 2, 3, 4, 8]
  | 1 => [4, 8, 10, 11, 12]
  | 2 => [4, 8, 10]
  | 3 => [8, 9]
  | _ => []
theorem body_eq (s0 s1 : SpecP) (fr : AFr) (H : AHeap) : acode tp (C s0 s1) (draws tp (C s0 s1)) K (co Go.Proofs.Try.f129) fr H = body s0 s1 fr H := by kernel_rfl
theorem sound : Sound tp 129 (.pure false spec) := sayP ((Tab.Sound.none.add word_Add.sound).add core_flags.sound) Go.Proofs.Try.func129 (by kernel_rfl) (by kernel_rfl) (fun a w => Go.Proofs.Try.call129 a w) (body_eq word_Add.spec core_flags.spec) 4 (by decide +kernel) (g := res) (fun fr H => by kernel_rfl) (ts := some [[none, none, none, none, none, none, none, none, none, none, none, none, none], [none]]) (by kernel_rfl) fun args r h => by
  unfold spec at h; split at h <;> first | exact ⟨rfl, h⟩ | cases h
end core_add
namespace core_shift
def K : Nat → List Nat
  | 0 => [1, 2, 3, 4, 8]
  | 1 => [4, 8, 10, 11]
  | 2 => [4, 8, 10]
  | 3 => [8, 9]
  | _ => []
theorem body_eq (s0 s1 : SpecP) (fr : AFr) (H : AHeap) : acode tp (C s0 s1) (draws tp (C s0 s1)) K (co Go.Proofs.Try.f130) fr H = body s0 s1 fr H := by kernel_rfl
theorem sound : Sound tp 130 (.pure false spec) := sayP ((Tab.Sound.none.add word_Shift.sound).add core_flags.sound) Go.Proofs.Try.func130 (by kernel_rfl) (by kernel_rfl) (fun a w => Go.Proofs.Try.call130 a w) (body_eq word_Shift.spec core_flags.spec) 4 (by decide +kernel) (g := res) (fun fr H => by kernel_rfl) (ts := some [[none, none, none, none, none, none, none, none, none, none, none, none, none], [none]]) (by kernel_rfl) fun args r h => by
  unfold spec at h; split at h <;> first | exact ⟨rfl, h⟩ | cases h
end core_shift
namespace core_alu
def K : Nat → List Nat
  | 0 => [1, 2, 3, 4, 8]
  | 1 => [1, 2, 3, 4, 8, 10]
  | 2 => [1, 2, 3, 4, 8, 10, 11]
  | 3 => [1, 2, 3, 4, 8, 10, 11, 12]
  | 4 => [1, 2, 3, 4, 8, 10, 11, 12]
  | 5 => [4, 8, 10]
  | 6 => [1, 2, 3, 4, 8, 10, 11, 18]
  | 7 => [4, 8, 10]
  | 8 => [1, 2, 3, 4, 8, 10, 11, 23]
  | 9 => [4, 8, 10]
  | 10 => [1, 2, 3, 4, 8, 10, 11, 28]
  | 11 => [4, 8, 10]
  | 12 => [1, 2, 3, 4, 8, 10, 11, 33]
  | 13 => [4, 8, 10]
  | 14 => [1, 2, 3, 4, 8, 10, 11, 37]
  | 15 => [4, 8, 10]
  | 16 => [1, 2, 3, 4, 8, 10, 11, 42]
  | 17 => [1, 2, 3, 4, 8, 10, 11, 42]
  | 18 => [1, 2, 3, 4, 8, 10, 11, 42]
  | 19 => [8, 9]
  | 20 => [2, 3, 4, 8, 10, 11, 56]
  | 21 => [8, 9]
  | 22 => [2, 3, 4, 8, 10, 11, 65]
  | 23 => [8, 9]
  | 24 => [2, 3, 4, 8, 10, 11, 75]
  | 25 => [8, 9]
  | 26 => [2, 3, 4, 8, 10, 11, 86]
  | 27 => [8, 9]
  | 28 => [2, 3, 4, 8, 10, 11, 94]
  | 29 => [8, 9]
  | 30 => [2, 3, 4, 8, 10, 103]
  | 31 => [8, 9]
  | 32 => [8, 9]
  | _ => []
theorem body_eq (s0 s1 s2 : SpecP) (fr : AFr) (H : AHeap) : acode tp (C s0 s1 s2) (draws tp (C s0 s1 s2)) K (co Go.Proofs.Try.f131) fr H = body s0 s1 s2 fr H := by kernel_rfl
theorem sound : Sound tp 131 (.pure false spec) := sayP (((Tab.Sound.none.add core_shift.sound).add core_add.sound).add core_flags.sound) Go.Proofs.Try.func131 (by kernel_rfl) (by kernel_rfl) (fun a w => Go.Proofs.Try.call131 a w) (body_eq core_shift.spec core_add.spec core_flags.spec) 4 (by decide +kernel) (g := res) (fun fr H => by kernel_rfl) (ts := some [[none, none, none, none, none, none, none, none, none, none, none, none, none], [none]]) (by kernel_rfl) fun args r h => by
  unfold spec at h; split at h <;> first | exact ⟨rfl, h⟩ | cases h
end core_alu
namespace core_reckons
def K : Nat → List Nat
  | 0 => [2, 3, 4]
  | 1 => [2, 3, 4, 6]
  | 2 => [2, 3, 4, 6, 7, 8, 9]
  | 3 => [2, 3, 4, 6, 7, 8, 9, 29]
  | 4 => [2, 3, 4, 6, 7, 8, 9, 29, 30]
  | 5 => [4, 5]
  | 6 => [2, 3, 4, 6, 7, 8, 9, 29, 36]
  | 7 => [2, 3, 4, 6, 7, 8, 9, 29, 36]
  | 8 => [4, 5]
  | 9 => [2, 3, 4, 6, 7, 8, 9, 29, 46]
  | 10 => [4, 5]
  | 11 => [2, 3, 4, 6, 7, 8, 9, 29, 54]
  | 12 => [2, 3, 4, 6, 7, 8, 9, 29, 54]
  | 13 => [2, 3, 4, 6, 7, 8, 9, 29, 54]
  | 14 => [4, 5]
  | 15 => [2, 3, 4, 6, 7, 8, 9, 29, 68]
  | 16 => [4, 5]
  | 17 => [2, 3, 4, 6, 7, 8, 9, 29, 76]
  | 18 => [4, 5]
  | 19 => [2, 3, 4, 6, 7, 8, 9, 29, 85]
  | 20 => [4, 5]
  | 21 => [2, 3, 4, 6, 7, 8, 9, 93]
  | 22 => [4, 5]
  | 23 => [4, 5]
  | _ => []
theorem body_eq (s0 s1 s2 s3 : SpecP) (fr : AFr) (H : AHeap) : acode tp (C s0 s1 s2 s3) (draws tp (C s0 s1 s2 s3)) K (co Go.Proofs.Try.f93) fr H = body s0 s1 s2 s3 fr H := by kernel_rfl
theorem sound : Sound tp 93 (.pure false spec) := sayP ((((Tab.Sound.none.add core_flags.sound).add core_add.sound).add core_shift.sound).add core_alu.sound) Go.Proofs.Try.func93 (by kernel_rfl) (by kernel_rfl) (fun a w => Go.Proofs.Try.call93 a w) (body_eq core_flags.spec core_add.spec core_shift.spec core_alu.spec) 2 (by decide +kernel) (g := res) (fun fr H => by kernel_rfl) (ts := some [[none, none, none, none, none, none, none, none, none, none, none, none, none], [none]]) (by kernel_rfl) fun args r h => by
  unfold spec at h; split at h <;> first | exact ⟨rfl, h⟩ | cases h
end core_reckons
namespace core_Step
def K : Nat → List Nat
  | 0 => [1, 2, 4]
  | 1 => [1, 2, 4, 16]
  | 2 => [4, 5, 6]
  | 3 => [1, 2, 4, 7, 8]
  | 4 => [1, 2, 4, 7, 8, 26]
  | 5 => [4, 5, 6]
  | 6 => [1, 2, 4, 8, 9]
  | 7 => [1, 2, 4, 8, 9, 35]
  | 8 => [4, 5, 6]
  | 9 => [1, 2, 4, 9, 10]
  | 10 => [1, 2, 4, 9, 10, 11]
  | 11 => [1, 2, 4, 9, 10, 11, 43]
  | 17 => [1, 2, 4, 9, 10, 11, 43, 60]
  | 18 => [4, 5, 6]
  | 19 => [1, 2, 4, 9, 10, 11, 43, 63]
  | 20 => [1, 2, 4, 9, 10, 11, 43, 65]
  | 21 => [2, 4, 9, 10, 11, 70]
  | 22 => [4, 10, 11]
  | 23 => [1, 2, 4, 9, 10, 11, 43, 79]
  | 24 => [4, 10, 11]
  | 25 => [1, 2, 4, 9, 10, 11, 43, 89]
  | 26 => [1, 2, 4, 9, 10, 11, 43, 89]
  | 27 => [1, 2, 4, 9, 10, 11, 43, 89]
  | 28 => [1, 2, 4, 9, 10, 11, 43, 89]
  | 29 => [1, 2, 4, 9, 10, 11, 89]
  | 30 => [2, 4, 8, 10, 11]
  | 31 => [2, 4, 8, 10, 11, 103]
  | 32 => [4, 5, 6]
  | 12 => [2, 4, 9, 10, 11]
  | 13 => [4, 9, 10, 11, 12]
  | 14 => [4, 10, 11, 12, 13, 14]
  | 15 => [4, 10, 11, 12, 13, 55]
  | 16 => [4, 10, 11]
  | 33 => [4, 10]
  | 34 => [4, 5, 6]
  | _ => []
theorem body_eq (s0 : SpecM) (s1 s2 : SpecP) (s3 : SpecM) (s4 s5 : SpecP) (fr : AFr) (H : AHeap) : acode tp (C s0 s1 s2 s3 s4 s5) (draws tp (C s0 s1 s2 s3 s4 s5)) K (co Go.Proofs.Try.f44) fr H = body s0 s1 s2 s3 s4 s5 fr H := by kernel_rfl
theorem sound : Sound tp 44 (.ref [true, false] spec) := sayT ((((((Tab.Sound.none.add mem_Mem_Fetch.sound).add thumb_Take.sound).add core_holds.sound).add core_moves.sound).add core_reckons.sound).add thumb_Writes.sound) Go.Proofs.Try.func44 (by kernel_rfl) (by kernel_rfl) (fun a w => Go.Proofs.Try.call44 a w) (body_eq mem_Mem_Fetch.spec thumb_Take.spec core_holds.spec core_moves.spec core_reckons.spec thumb_Writes.spec) 2 (by decide +kernel) (g := res) (fun fr H => by kernel_rfl) fun args H r h => by
  unfold spec at h; split at h <;> first | exact ⟨rfl, h⟩ | cases h
end core_Step
end Go.Abs
