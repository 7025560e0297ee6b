/-
  That the program's functions are these. Printed by gen.py.
-/
import Derived.Test.YteohnepdbjmghaaZ6
import Derived.Test.YteohnepdbjmghaaZ8
import Derived.Test.YteohnepdbjmghaaZ7
import Derived.Test.YteohnepdbjmghaaZ2
import Derived.Test.YteohnepdbjmghaaZ4
set_option linter.unusedSimpArgs false
set_option linter.unusedVariables false
set_option maxHeartbeats 20000000
set_option maxRecDepth 100000
section
namespace Go.Abs
open Go.Proofs.Try
namespace z_b0
def K : Nat → List Nat
 | 0 => [1]
 | 1 => [1, 3]
 | 2 => [1, 3, 9]
 | 4 => [1, 3, 4]
 | 5 => [1, 3, 4, 14]
 | 7 => [1, 3, 4, 27]
 | 8 => [2]
 | 6 => [1, 3, 4]
 | 9 => [1, 3, 35]
 | 10 => [2]
 | 3 => [1, 3]
 | 11 => [2]
 | _ => []
theorem z_ad (s0 : SpecP) (fr : AFr) (H : Hp) : acode tp (C s0) (draws tp (C s0)) K (co f36) fr H = body s0 fr H := by kernel_rfl
theorem sound : Sound tp 36 (.pure false spec) := sayP (Tab.Sound.none.add z_bg.sound) func36 (by kernel_rfl) (by kernel_rfl) (fun a w => call36 a w) (z_ad z_bg.spec) 1 (by decide +kernel) (g := res) (fun fr H => by kernel_rfl) (ts := some [[none]]) (by kernel_rfl) fun args r h => by
 unfold spec at h; split at h <;> first | exact ⟨rfl, h⟩ | cases h
end z_b0
namespace z_bk
def K : Nat → List Nat
 | 0 => [1]
 | 1 => [1, 3]
 | 2 => [1, 3, 11]
 | 3 => [2]
 | 4 => [1, 3, 4]
 | 5 => [1, 3, 4, 20]
 | 7 => [1, 3, 4, 26]
 | 8 => [1, 3, 4]
 | 9 => [1, 3, 4]
 | 6 => [1, 3, 4]
 | 10 => [1, 3, 5]
 | 11 => [1, 3, 5, 41]
 | 13 => [1, 3, 5, 6]
 | 14 => [1, 3, 5, 6, 52]
 | 15 => [1, 3, 5, 6]
 | 16 => [1, 3, 5, 6, 61]
 | 17 => [1, 3, 5]
 | 12 => [1, 3, 5]
 | 18 => [1, 3, 7]
 | 19 => [1, 3, 7, 71]
 | 21 => [1, 3, 7]
 | 20 => [1, 3, 7]
 | 22 => [2]
 | _ => []
theorem z_ad (s0 s1 : SpecP) (fr : AFr) (H : Hp) : acode tp (C s0 s1) (draws tp (C s0 s1)) K (co f122) fr H = body s0 s1 fr H := by kernel_rfl
theorem sound : Sound tp 122 (.pure false spec) := sayP ((Tab.Sound.none.add z_bg.sound).add z_a4.sound) func122 (by kernel_rfl) (by kernel_rfl) (fun a w => call122 a w) (z_ad z_bg.spec z_a4.spec) 1 (by decide +kernel) (g := res) (fun fr H => by kernel_rfl) (ts := some [[some 1]]) (by kernel_rfl) fun args r h => by
 unfold spec at h; split at h <;> first | exact ⟨rfl, h⟩ | cases h
end z_bk
namespace z_bh
def K : Nat → List Nat
 | 0 => [1]
 | 1 => [1, 16]
 | 2 => [2, 3, 4]
 | 3 => [1, 5, 6, 7, 8]
 | 4 => [1, 5, 6, 7, 8, 9]
 | 5 => [1, 5, 6, 7, 8, 9, 37]
 | 7 => [1, 5, 6, 7, 8, 9]
 | 6 => [1, 5, 6, 7, 8, 9]
 | 8 => [1, 5, 6, 7, 8, 10]
 | 9 => [1, 5, 6, 7, 8, 10, 48]
 | 11 => [1, 5, 6, 7, 8, 10]
 | 10 => [1, 5, 6, 7, 8, 10]
 | 12 => [1, 5, 6, 7, 8, 11]
 | 13 => [1, 5, 6, 7, 8, 11, 66]
 | 15 => [1, 5, 6, 7, 8, 11, 12]
 | 16 => [1, 5, 6, 7, 8, 11, 12, 80]
 | 17 => [1, 5, 6, 7, 8, 11, 12, 13]
 | 18 => [1, 5, 6, 7, 8, 11, 12, 13, 92]
 | 19 => [1, 5, 6, 7, 8, 11, 12, 13]
 | 20 => [1, 5, 6, 7, 8, 11, 12, 13, 98]
 | 21 => [1, 5, 6, 7, 8, 11, 12, 13]
 | 22 => [1, 5, 6, 7, 8, 11]
 | 14 => [1, 5, 6, 7, 8, 11]
 | 23 => [5, 7, 8, 119]
 | 24 => [2, 3, 4]
 | 25 => [2, 3, 4]
 | _ => []
theorem z_ad (s0 s1 : SpecP) (fr : AFr) (H : Hp) : acode tp (C s0 s1) (draws tp (C s0 s1)) K (co f84) fr H = body s0 s1 fr H := by kernel_rfl
theorem sound : Sound tp 84 (.pure false spec) := sayP ((Tab.Sound.none.add z_b0.sound).add z_bk.sound) func84 (by kernel_rfl) (by kernel_rfl) (fun a w => call84 a w) (z_ad z_b0.spec z_bk.spec) 1 (by decide +kernel) (g := res) (fun fr H => by kernel_rfl) (ts := some [[some 1], [none], [none]]) (by kernel_rfl) fun args r h => by
 unfold spec at h; split at h <;> first | exact ⟨rfl, h⟩ | cases h
end z_bh
end Go.Abs
end
section
namespace Go.Abs
open Go.Proofs.Try
namespace z_c0
def K : Nat → List Nat
 | 0 => [1, 2, 4]
 | 1 => [2, 4]
 | 2 => [4]
 | _ => []
theorem z_ad (fr : AFr) (H : Hp) : acode tp C (draws tp C) K (co f187) fr H = body fr H := by kernel_rfl
theorem sound : Sound tp 187 (.pure false spec) := sayP Tab.Sound.none func187 (by kernel_rfl) (by kernel_rfl) (fun a w => call187 a w) z_ad 2 (by decide +kernel) (g := res) (fun fr H => by kernel_rfl) (ts := some [[none, none, none, none, none, none, none, none, none, none, none, none, none]]) (by kernel_rfl) fun args r h => by
 unfold spec at h; split at h <;> first | exact ⟨rfl, h⟩ | cases h
end z_c0
namespace z_ca
def K : Nat → List Nat
 | 0 => [1, 2, 3, 6]
 | 1 => [1, 2, 3, 6]
 | 2 => [1, 2, 3, 6, 11]
 | 3 => [3, 6]
 | 4 => [6]
 | _ => []
theorem z_ad (s0 : SpecP) (fr : AFr) (H : Hp) : acode tp (C s0) (draws tp (C s0)) K (co f161) fr H = body s0 fr H := by kernel_rfl
theorem sound : Sound tp 161 (.pure false spec) := sayP (Tab.Sound.none.add z_c0.sound) func161 (by kernel_rfl) (by kernel_rfl) (fun a w => call161 a w) (z_ad z_c0.spec) 3 (by decide +kernel) (g := res) (fun fr H => by kernel_rfl) (ts := some [[none, none, none, none, none, none, none, none, none, none, none, none, none]]) (by kernel_rfl) fun args r h => by
 unfold spec at h; split at h <;> first | exact ⟨rfl, h⟩ | cases h
end z_ca
namespace z_dh
def K : Nat → List Nat
 | 0 => [0]
 | 1 => [2]
 | _ => []
theorem z_ad (fr : AFr) (H : Hp) : acode tp C (draws tp C) K (co f163) fr H = body fr H := by kernel_rfl
theorem sound : Sound tp 163 (.pure false spec) := sayP Tab.Sound.none func163 (by kernel_rfl) (by kernel_rfl) (fun a w => call163 a w) z_ad 1 (by decide +kernel) (g := res) (fun fr H => by kernel_rfl) (ts := some [[none]]) (by kernel_rfl) fun args r h => by
 unfold spec at h; split at h <;> first | exact ⟨rfl, h⟩ | cases h
end z_dh
namespace z_cz
def K : Nat → List Nat
 | 0 => [1, 2, 3, 4, 5, 10]
 | 1 => [4, 5, 10, 11, 12, 13]
 | 2 => [4, 5, 10, 11]
 | 3 => [10]
 | _ => []
theorem z_ad (s0 s1 : SpecP) (fr : AFr) (H : Hp) : acode tp (C s0 s1) (draws tp (C s0 s1)) K (co f162) fr H = body s0 s1 fr H := by kernel_rfl
theorem sound : Sound tp 162 (.pure false spec) := sayP ((Tab.Sound.none.add z_c5.sound).add z_ca.sound) func162 (by kernel_rfl) (by kernel_rfl) (fun a w => call162 a w) (z_ad z_c5.spec z_ca.spec) 5 (by decide +kernel) (g := res) (fun fr H => by kernel_rfl) (ts := some [[none, none, none, none, none, none, none, none, none, none, none, none, none]]) (by kernel_rfl) fun args r h => by
 unfold spec at h; split at h <;> first | exact ⟨rfl, h⟩ | cases h
end z_cz
namespace z_ch
def K : Nat → List Nat
 | 0 => [1, 2, 3, 4, 5, 10]
 | 1 => [4, 5, 10, 11, 12]
 | 2 => [4, 5, 10, 11]
 | 3 => [10]
 | _ => []
theorem z_ad (s0 s1 : SpecP) (fr : AFr) (H : Hp) : acode tp (C s0 s1) (draws tp (C s0 s1)) K (co f164) fr H = body s0 s1 fr H := by kernel_rfl
theorem sound : Sound tp 164 (.pure false spec) := sayP ((Tab.Sound.none.add z_aq.sound).add z_ca.sound) func164 (by kernel_rfl) (by kernel_rfl) (fun a w => call164 a w) (z_ad z_aq.spec z_ca.spec) 5 (by decide +kernel) (g := res) (fun fr H => by kernel_rfl) (ts := some [[none, none, none, none, none, none, none, none, none, none, none, none, none]]) (by kernel_rfl) fun args r h => by
 unfold spec at h; split at h <;> first | exact ⟨rfl, h⟩ | cases h
end z_ch
namespace z_ar
def K : Nat → List Nat
 | 0 => [1, 2, 3, 4, 5, 10]
 | 1 => [1, 2, 3, 4, 5, 10, 11]
 | 2 => [1, 2, 3, 4, 5, 10, 11, 12]
 | 3 => [10]
 | 4 => [1, 2, 3, 4, 5, 10, 11, 20]
 | 5 => [10]
 | 6 => [1, 2, 3, 4, 5, 10, 11, 28]
 | 7 => [1, 2, 3, 4, 5, 10, 11, 28]
 | 8 => [1, 2, 3, 4, 5, 10, 11, 28]
 | 9 => [10]
 | 10 => [2, 3, 4, 5, 10, 11, 40]
 | 11 => [10]
 | 12 => [2, 3, 4, 5, 10, 11, 49]
 | 13 => [10]
 | 14 => [2, 3, 4, 5, 10, 11, 59]
 | 15 => [10]
 | 16 => [2, 3, 4, 5, 10, 11, 67]
 | 17 => [10]
 | 18 => [2, 3, 4, 5, 10, 11, 74]
 | 19 => [10]
 | 20 => [2, 3, 4, 5, 10, 11, 81]
 | 21 => [10]
 | 22 => [2, 3, 4, 5, 10, 11, 88]
 | 23 => [10]
 | 24 => [2, 3, 4, 5, 10, 11, 94]
 | 25 => [10]
 | 26 => [2, 3, 4, 5, 10, 11, 102]
 | 27 => [10]
 | 28 => [2, 3, 4, 5, 10, 110]
 | 29 => [10]
 | 30 => [10]
 | _ => []
theorem z_ad (s0 s1 s2 s3 : SpecP) (fr : AFr) (H : Hp) : acode tp (C s0 s1 s2 s3) (draws tp (C s0 s1 s2 s3)) K (co f165) fr H = body s0 s1 s2 s3 fr H := by kernel_rfl
theorem sound : Sound tp 165 (.pure false spec) := sayP ((((Tab.Sound.none.add z_ca.sound).add z_ch.sound).add z_cz.sound).add z_dh.sound) func165 (by kernel_rfl) (by kernel_rfl) (fun a w => call165 a w) (z_ad z_ca.spec z_ch.spec z_cz.spec z_dh.spec) 5 (by decide +kernel) (g := res) (fun fr H => by kernel_rfl) (ts := some [[none, none, none, none, none, none, none, none, none, none, none, none, none]]) (by kernel_rfl) fun args r h => by
 unfold spec at h; split at h <;> first | exact ⟨rfl, h⟩ | cases h
end z_ar
namespace z_bm
def K : Nat → List Nat
 | 0 => [0, 3]
 | 1 => [0, 3, 10]
 | 2 => [4]
 | 3 => [4]
 | _ => []
theorem z_ad (fr : AFr) (H : Hp) : acode tp C (draws tp C) K (co f168) fr H = body fr H := by kernel_rfl
theorem sound : Sound tp 168 (.pure false spec) := sayP Tab.Sound.none func168 (by kernel_rfl) (by kernel_rfl) (fun a w => call168 a w) z_ad 2 (by decide +kernel) (g := res) (fun fr H => by kernel_rfl) (ts := some [[none]]) (by kernel_rfl) fun args r h => by
 unfold spec at h; split at h <;> first | exact ⟨rfl, h⟩ | cases h
end z_bm
namespace z_av
def K : Nat → List Nat
 | 0 => [1, 2, 4]
 | 1 => [1, 2, 4, 7, 8]
 | 2 => [1, 2, 4, 7, 8, 25]
 | 3 => [4, 5, 6]
 | 4 => [1, 2, 4, 9, 10]
 | 5 => [1, 2, 4, 9, 10, 34]
 | 6 => [4, 5, 6]
 | 7 => [1, 2, 4, 9, 11, 12, 13]
 | 8 => [1, 2, 4, 9, 11, 12, 13, 14, 15, 16]
 | 9 => [1, 2, 4, 8, 9, 11, 12, 13, 14, 15, 16]
 | 10 => [1, 2, 4, 8, 9, 11, 12, 13, 14, 15, 16, 61]
 | 11 => [1, 2, 4, 8, 9, 11, 12, 13, 14, 15, 16, 61, 62]
 | 12 => [2, 4, 8, 12, 13]
 | 13 => [1, 2, 4, 8, 9, 11, 12, 13, 14, 15, 16, 61, 69]
 | 14 => [2, 4, 8, 12, 13]
 | 15 => [1, 2, 4, 8, 9, 11, 12, 13, 14, 15, 16, 61, 76]
 | 16 => [2, 4, 8, 12, 13]
 | 17 => [1, 2, 4, 8, 9, 11, 12, 13, 14, 15, 16, 61, 84]
 | 18 => [2, 4, 8, 12, 13]
 | 19 => [1, 2, 4, 8, 9, 11, 12, 13, 14, 15, 16, 61, 93]
 | 20 => [1, 2, 4, 8, 9, 11, 12, 13, 14, 15, 16, 61, 93]
 | 21 => [1, 2, 4, 8, 9, 11, 12, 13, 14, 15, 16, 61, 93]
 | 22 => [2, 4, 8, 12, 13]
 | 23 => [1, 2, 4, 8, 9, 11, 12, 13, 14, 15, 16, 61, 106]
 | 24 => [2, 4, 8, 12, 13]
 | 25 => [1, 2, 4, 8, 9, 11, 12, 13, 14, 15, 16, 61, 114]
 | 26 => [2, 4, 8, 12, 13]
 | 27 => [1, 2, 4, 8, 9, 11, 12, 13, 14, 15, 16, 61, 123]
 | 28 => [2, 4, 8, 12, 13]
 | 29 => [1, 2, 4, 8, 9, 11, 12, 13, 14, 15, 16, 61, 131]
 | 30 => [2, 4, 8, 12, 13]
 | 31 => [1, 2, 4, 8, 9, 11, 12, 13, 14, 15, 16, 61, 140]
 | 32 => [2, 4, 8, 12, 13]
 | 33 => [1, 2, 4, 8, 9, 11, 12, 13, 14, 15, 16, 61, 150]
 | 34 => [2, 4, 8, 12, 13]
 | 35 => [1, 2, 4, 8, 9, 11, 12, 13, 14, 15, 16, 61, 165]
 | 36 => [2, 4, 8, 12, 13]
 | 37 => [1, 2, 4, 8, 9, 11, 12, 13, 14, 15, 16, 61, 174]
 | 38 => [2, 4, 8, 12, 13]
 | 39 => [1, 2, 4, 8, 9, 11, 12, 13, 14, 15, 16, 61, 188]
 | 40 => [2, 4, 8, 12, 13]
 | 41 => [1, 2, 4, 8, 9, 11, 12, 13, 61, 196]
 | 42 => [2, 4, 8, 12, 13]
 | 43 => [2, 4, 8, 9, 11, 12, 13, 61, 215]
 | 44 => [2, 4, 8, 12, 13]
 | 45 => [2, 4, 8, 9, 11, 12, 13, 61, 224]
 | 46 => [2, 4, 8, 11, 12, 13, 229]
 | 47 => [2, 4, 8, 12, 13]
 | 48 => [2, 4, 8, 12, 13, 237]
 | 49 => [4, 5, 6]
 | 50 => [2, 4, 8, 12, 13, 241]
 | 51 => [4, 5, 6]
 | 52 => [4, 12]
 | 53 => [4, 5, 6]
 | _ => []
theorem z_ad (s0 : SpecM) (s1 s2 s3 s4 s5 s6 : SpecP) (s7 s8 : SpecM) (s9 : SpecP) (fr : AFr) (H : Hp) : acode tp (C s0 s1 s2 s3 s4 s5 s6 s7 s8 s9) (draws tp (C s0 s1 s2 s3 s4 s5 s6 s7 s8 s9)) K (co f123) fr H = body s0 s1 s2 s3 s4 s5 s6 s7 s8 s9 fr H := by kernel_rfl
theorem sound : Sound tp 123 (.ref [true, false] spec) := sayT ((((((((((Tab.Sound.none.add z_ay.sound).add z_az.sound).add z_ca.sound).add z_dh.sound).add z_cz.sound).add z_ch.sound).add z_ar.sound).add z_au.sound).add z_a6.sound).add z_bm.sound) func123 (by kernel_rfl) (by kernel_rfl) (fun a w => call123 a w) (z_ad z_ay.spec z_az.spec z_ca.spec z_dh.spec z_cz.spec z_ch.spec z_ar.spec z_au.spec z_a6.spec z_bm.spec) 2 (by decide +kernel) (g := res) (fun fr H => by kernel_rfl) fun args H r h => by
 unfold spec at h; split at h <;> first | exact ⟨rfl, h⟩ | cases h
end z_av
end Go.Abs
end
section
namespace Go.Abs
open Go.Proofs.Try
namespace z_by
def K : Nat → List Nat
 | 0 => [1, 2, 4, 5]
 | 1 => [1, 2, 4, 5, 8]
 | 2 => [1, 2, 4, 5, 8, 9, 10, 11]
 | 3 => [1, 2, 4, 5, 8, 9, 10, 11, 33]
 | 4 => [4, 5, 6, 7]
 | 5 => [2, 4, 5, 8, 9, 10, 12]
 | 6 => [2, 4, 5, 8, 9, 10, 12, 14]
 | 7 => [2, 4, 5, 9, 10, 14, 16]
 | 8 => [2, 4, 5, 9, 10, 14, 16, 17, 18]
 | 9 => [2, 4, 5, 9, 10, 14, 16, 17, 18, 77]
 | 10 => [2, 4, 5, 9, 10, 14, 16, 17, 18]
 | 11 => [2, 4, 5, 9, 10, 14, 16, 17, 18, 97]
 | 12 => [2, 4, 5, 9, 10, 14, 16, 17, 18]
 | 13 => [2, 4, 5, 9, 10, 14, 16, 17, 18, 109]
 | 14 => [2, 4, 5, 9, 10, 14, 16, 17, 18]
 | 15 => [2, 4, 5, 9, 10, 14, 16, 17, 18, 129]
 | 16 => [2, 4, 5, 9, 10, 14, 16, 17, 18]
 | 17 => [2, 4, 5, 9, 10, 14, 16, 17, 18, 149]
 | 18 => [2, 4, 5, 9, 10, 14, 16, 17, 18]
 | 19 => [2, 4, 5, 9, 10, 14, 16, 17, 18, 157]
 | 20 => [2, 4, 5, 9, 10, 14, 16, 17, 18]
 | 21 => [2, 4, 5, 9, 10, 14, 16, 17, 18]
 | 22 => [2, 4, 5, 9, 10, 14, 16, 17, 18, 173]
 | 23 => [2, 4, 5, 9, 10, 14, 16, 17, 18]
 | 24 => [2, 4, 5, 9, 10, 14, 16, 17, 18, 188]
 | 25 => [2, 4, 5, 9, 10, 14, 16, 17, 18]
 | 26 => [2, 4, 5, 9, 10, 14, 16, 17, 18, 202]
 | 27 => [2, 4, 5, 9, 10, 14, 16, 17]
 | 28 => [2, 4, 5, 9, 10, 14, 16, 17]
 | 29 => [2, 4, 5, 9, 10, 14, 16, 17, 19, 20]
 | 30 => [2, 4, 5, 9, 10, 14, 16, 17, 19, 233]
 | 31 => [4, 5, 9, 10, 14, 16, 17]
 | 32 => [4, 5, 9, 10, 14, 16, 17, 249]
 | 33 => [4, 5, 9, 10, 14, 16, 17]
 | 34 => [4, 5, 9, 10, 14, 16, 17, 263]
 | 35 => [4, 5, 9, 10, 14, 16, 17]
 | 36 => [4, 5, 9, 10, 14, 16, 17, 276]
 | 37 => [4, 5, 9, 10, 14, 16, 17]
 | 38 => [4, 5, 9, 10, 16, 289]
 | 39 => [4, 5, 9, 10, 16]
 | 40 => [4, 5, 6, 7]
 | _ => []
theorem z_ad (s0 s1 : SpecM) (s2 s3 : SpecP) (fr : AFr) (H : Hp) : acode tp (C s0 s1 s2 s3) (draws tp (C s0 s1 s2 s3)) K (co f86) fr H = body s0 s1 s2 s3 fr H := by kernel_rfl
theorem sound : Sound tp 86 (.ref [true, false] spec) := sayT ((((Tab.Sound.none.add z_av.sound).add z_ay.sound).add z_az.sound).add z_bj.sound) func86 (by kernel_rfl) (by kernel_rfl) (fun a w => call86 a w) (z_ad z_av.spec z_ay.spec z_az.spec z_bj.spec) 2 (by decide +kernel) (g := res) (fun fr H => by kernel_rfl) fun args H r h => by
 unfold spec at h; split at h <;> first | exact ⟨rfl, h⟩ | cases h
end z_by
namespace z_cg
def K : Nat → List Nat
 | 0 => [2, 3]
 | 1 => [4]
 | _ => []
theorem z_ad (fr : AFr) (H : Hp) : acode tp C (draws tp C) K (co f89) fr H = body fr H := by kernel_rfl
theorem sound : Sound tp 89 (.pure false spec) := sayP Tab.Sound.none func89 (by kernel_rfl) (by kernel_rfl) (fun a w => call89 a w) z_ad 2 (by decide +kernel) (g := res) (fun fr H => by kernel_rfl) (ts := some [[none]]) (by kernel_rfl) fun args r h => by
 unfold spec at h; split at h <;> first | exact ⟨rfl, h⟩ | cases h
end z_cg
end Go.Abs
end
section
namespace Go.Abs
open Go.Proofs.Try
namespace z_bf
def K : Nat → List Nat
 | 0 => [0, 1, 2, 3, 8]
 | 1 => [1, 3, 8, 9, 10]
 | 2 => [1, 3, 8, 9, 10, 11]
 | 3 => [1, 3, 8, 9, 10, 11, 30]
 | 5 => [1, 3, 8, 9, 10, 11]
 | 4 => [1, 3, 8, 9, 10, 11]
 | 6 => [3, 8, 9, 10, 44]
 | 7 => [3, 8, 9, 10]
 | 8 => [3, 8, 9, 10, 12]
 | 9 => [3, 8, 9, 10, 12, 13]
 | 10 => [3, 8, 9, 10, 12, 13, 52]
 | 11 => [3, 8, 9, 10, 12, 13, 14, 15, 16, 17]
 | 12 => [3, 8, 9, 10, 12, 13, 14, 15, 16, 17, 62]
 | 13 => [3, 8, 9, 10, 12, 13]
 | 14 => [3, 8, 9, 10, 12, 13, 16]
 | 15 => [3, 8, 9, 10, 12, 13, 76]
 | 16 => [3, 8, 9, 10, 12, 13]
 | 17 => [8, 12]
 | 18 => [8]
 | _ => []
theorem z_ad (s0 s1 : SpecM) (fr : AFr) (H : Hp) : acode tp (C s0 s1) (draws tp (C s0 s1)) K (co f40) fr H = body s0 s1 fr H := by kernel_rfl
theorem sound : Sound tp 40 (.pure false spec) := sayP ((Tab.Sound.none.add z_b1.sound).add z_by.sound) func40 (by kernel_rfl) (by kernel_rfl) (fun a w => call40 a w) (z_ad z_b1.spec z_by.spec) 4 (by decide +kernel) (g := res) (fun fr H => by kernel_rfl) (ts := some [[none, none, none, some 1, some 10]]) (by kernel_rfl) fun args r h => by
 unfold spec at h; split at h <;> first | exact ⟨rfl, h⟩ | cases h
end z_bf
namespace z_ce
def K : Nat → List Nat
 | 0 => [0, 1]
 | 1 => [0, 1, 10]
 | 2 => [4]
 | 3 => [0, 1, 5]
 | 4 => [0, 1, 5, 14]
 | 6 => [0, 1, 5, 26]
 | 7 => [4]
 | 5 => [0, 1, 5]
 | 8 => [4]
 | _ => []
theorem z_ad (s0 : SpecP) (fr : AFr) (H : Hp) : acode tp (C s0) (draws tp (C s0)) K (co f42) fr H = body s0 fr H := by kernel_rfl
theorem sound : Sound tp 42 (.pure false spec) := sayP (Tab.Sound.none.add z_cg.sound) func42 (by kernel_rfl) (by kernel_rfl) (fun a w => call42 a w) (z_ad z_cg.spec) 2 (by decide +kernel) (g := res) (fun fr H => by kernel_rfl) (ts := some [[none]]) (by kernel_rfl) fun args r h => by
 unfold spec at h; split at h <;> first | exact ⟨rfl, h⟩ | cases h
end z_ce
namespace z_ba
def K : Nat → List Nat
 | 0 => [0]
 | 1 => [0, 3]
 | 2 => [0, 3, 4]
 | 3 => [0, 3, 4, 10]
 | 5 => [0, 3, 4, 5]
 | 6 => [0, 3, 4, 5]
 | 7 => [0, 3, 4, 5, 28]
 | 8 => [0, 3, 4]
 | 9 => [0, 3, 4, 60]
 | 10 => [0, 3, 4]
 | 4 => [0, 3, 4]
 | 11 => [2]
 | _ => []
theorem z_ad (s0 : SpecP) (fr : AFr) (H : Hp) : acode tp (C s0) (draws tp (C s0)) K (co f43) fr H = body s0 fr H := by kernel_rfl
theorem sound : Sound tp 43 (.pure false spec) := sayP (Tab.Sound.none.add z_az.sound) func43 (by kernel_rfl) (by kernel_rfl) (fun a w => call43 a w) (z_ad z_az.spec) 1 (by decide +kernel) (g := res) (fun fr H => by kernel_rfl) (ts := some [[none]]) (by kernel_rfl) fun args r h => by
 unfold spec at h; split at h <;> first | exact ⟨rfl, h⟩ | cases h
end z_ba
end Go.Abs
end
section
namespace Go.Abs
open Go.Proofs.Try
namespace z_c1
def K : Nat → List Nat
 | 0 => []
 | 1 => [0]
 | _ => []
theorem z_ad (s0 s1 : SpecP) (fr : AFr) (H : Hp) : acode tp (C s0 s1) (draws tp (C s0 s1)) K (co f24) fr H = body s0 s1 fr H := by kernel_rfl
theorem sound : Sound tp 24 (.pure false spec) := sayP ((Tab.Sound.none.add z_cy.sound).add z_cv.sound) func24 (by kernel_rfl) (by kernel_rfl) (fun a w => call24 a w) (z_ad z_cy.spec z_cv.spec) 0 (by decide +kernel) (g := res) (fun fr H => by kernel_rfl) (ts := some [[none]]) (by kernel_rfl) fun args r h => by
 unfold spec at h; split at h <;> first | exact ⟨rfl, h⟩ | cases h
end z_c1
namespace z_c6
def K : Nat → List Nat
 | 0 => [1]
 | 1 => [2]
 | _ => []
theorem z_ad (fr : AFr) (H : Hp) : acode tp C (draws tp C) K (co f31) fr H = body fr H := by kernel_rfl
theorem sound : Sound tp 31 (.pure false spec) := sayP Tab.Sound.none func31 (by kernel_rfl) (by kernel_rfl) (fun a w => call31 a w) z_ad 1 (by decide +kernel) (g := res) (fun fr H => by kernel_rfl) (ts := some [[none]]) (by kernel_rfl) fun args r h => by
 unfold spec at h; split at h <;> first | exact ⟨rfl, h⟩ | cases h
end z_c6
namespace z_dj
def K : Nat → List Nat
 | 0 => [1]
 | 1 => [1, 5, 6, 7]
 | 2 => [1, 5, 6, 17]
 | 3 => [2, 3, 4]
 | 4 => [6, 8, 9]
 | 5 => [2, 3, 4]
 | _ => []
theorem z_ad (s0 s1 s2 : SpecP) (fr : AFr) (H : Hp) : acode tp (C s0 s1 s2) (draws tp (C s0 s1 s2)) K (co f37) fr H = body s0 s1 s2 fr H := by kernel_rfl
theorem sound : Sound tp 37 (.pure false spec) := sayP (((Tab.Sound.none.add z_bh.sound).add z_ds.sound).add z_cd.sound) func37 (by kernel_rfl) (by kernel_rfl) (fun a w => call37 a w) (z_ad z_bh.spec z_ds.spec z_cd.spec) 1 (by decide +kernel) (g := res) (fun fr H => by kernel_rfl) (ts := some [[some 1], [none], [none]]) (by kernel_rfl) fun args r h => by
 unfold spec at h; split at h <;> first | exact ⟨rfl, h⟩ | cases h
end z_dj
namespace z_cx
def K : Nat → List Nat
 | 0 => [0, 1]
 | 1 => [0, 1, 5]
 | 2 => [0, 1, 5, 6]
 | 3 => [0, 1, 5, 6, 11]
 | 5 => [0, 1, 5, 6, 7]
 | 6 => [0, 1, 5, 6, 7, 19]
 | 7 => [0, 1, 5, 6, 7]
 | 8 => [0, 1, 5, 6]
 | 4 => [0, 1, 5, 6]
 | 9 => [4]
 | _ => []
theorem z_ad (fr : AFr) (H : Hp) : acode tp C (draws tp C) K (co f38) fr H = body fr H := by kernel_rfl
theorem sound : Sound tp 38 (.pure false spec) := sayP Tab.Sound.none func38 (by kernel_rfl) (by kernel_rfl) (fun a w => call38 a w) z_ad 2 (by decide +kernel) (g := res) (fun fr H => by kernel_rfl) (ts := some [[some 1]]) (by kernel_rfl) fun args r h => by
 unfold spec at h; split at h <;> first | exact ⟨rfl, h⟩ | cases h
end z_cx
namespace law25_EmitRoads
def K : Nat → List Nat
 | 0 => [3, 4, 5]
 | 1 => [3, 4, 5, 19]
 | 2 => [6]
 | 3 => [3, 4, 5, 7, 8, 9]
 | 4 => [3, 4, 5, 7, 8, 28]
 | 5 => [6]
 | 6 => [3, 4, 5, 7, 8, 10]
 | 7 => [10, 11]
 | 8 => [6]
 | _ => []
theorem z_ad (s0 s1 s2 s3 s4 s5 s6 s7 s8 : SpecP) (fr : AFr) (H : Hp) : acode tp (C s0 s1 s2 s3 s4 s5 s6 s7 s8) (draws tp (C s0 s1 s2 s3 s4 s5 s6 s7 s8)) K (co f9) fr H = body s0 s1 s2 s3 s4 s5 s6 s7 s8 fr H := by kernel_rfl
theorem sound : Sound tp 9 (.pure false spec) := sayP (((((((((Tab.Sound.none.add z_c6.sound).add z_b0.sound).add z_c1.sound).add z_dj.sound).add z_cx.sound).add z_bv.sound).add z_bf.sound).add z_ce.sound).add z_ba.sound) func9 (by kernel_rfl) (by kernel_rfl) (fun a w => call9 a w) (z_ad z_c6.spec z_b0.spec z_c1.spec z_dj.spec z_cx.spec z_bv.spec z_bf.spec z_ce.spec z_ba.spec) 3 (by decide +kernel) (g := res) (fun fr H => by kernel_rfl) (ts := some [[none]]) (by kernel_rfl) fun args r h => by
 unfold spec at h; split at h <;> first | exact ⟨rfl, h⟩ | cases h
end law25_EmitRoads
end Go.Abs
end
section
section
namespace Go.Abs
theorem z_h2 (b c d : Bool) (h : (!b) = c) : apick (.bool b) (.bool true) (gdv c (.bool d)) = some (.bool (b || d)) := by
 subst h; cases b <;> rfl
theorem z_gw (b c d : Bool) (h : b = c) : apick (.bool b) (gdv c (.bool d)) (.bool false) = some (.bool (b && d)) := by
 subst h; cases b <;> rfl
theorem z_km {p : Prop} {x y : ARes} {Q : AEx → AFr → Hp → Prop} (h1 : p → ∃ e f X, x = some (e, f, X) ∧ Q e f X) (h2 : ¬ p → ∃ e f X, y = some (e, f, X) ∧ Q e f X) : ∃ e f X, @acondp p ⟨x⟩ ⟨y⟩ = some (e, f, X) ∧ Q e f X := by
 by_cases h : p
 ·rw [z_rz _ _ _ h]; exact h1 h
 ·rw [z_r0 _ _ _ h]; exact h2 h
theorem z_ct {f : AFr → Hp → ARes} (n : Nat) (R : Nat → AFr → Hp → Prop) (Q : AEx → AFr → Hp → Prop)
  (h : ∀ k, k < n → ∀ fr H, R k fr H → ∃ e fr' H', f fr H = some (e, fr', H') ∧ ((e = .normal ∧ R (k + 1) fr' H') ∨ (e ≠ .normal ∧ Q e fr' H')))
  (hx : ∀ fr H, R n fr H → ∃ e fr' H', f fr H = some (e, fr', H') ∧ e ≠ .normal ∧ Q e fr' H') {fr : AFr} {H : Hp} (h0 : R 0 fr H) :
  ∃ e fr' H', aloop f fr H = some (e, fr', H') ∧ Q e fr' H' := by
 refine z_rv (fun d fr H => d ≤ n ∧ R (n - d) fr H) Q (fun d fr H hR => ?_) n fr H ⟨Nat.le_refl _, by rw [Nat.sub_self]; exact h0⟩
 by_cases hd : d = 0
 ·subst hd
  obtain ⟨e, fr', H', h1, h2, h3⟩ := hx fr H hR.2
  exact ⟨e, fr', H', h1, .inr ⟨h2, h3⟩⟩
 ·obtain ⟨e, fr', H', h1, h2⟩ := h (n - d) (by omega) fr H hR.2
  refine ⟨e, fr', H', h1, ?_⟩
  rcases h2 with ⟨h3, h4⟩ | h3
  ·refine .inl ⟨h3, d - 1, by omega, by omega, ?_⟩
   have e : n - (d - 1) = n - d + 1 := by omega
   rw [e]; exact h4
  ·exact .inr h3
theorem z_ev {r r' : ARes} {Q : AEx → AFr → Hp → Prop} (hr : r' = r) (h : ∃ e f X, r' = some (e, f, X) ∧ Q e f X) : ∃ e f X, r = some (e, f, X) ∧ Q e f X := by
 subst hr; exact h
theorem z_nx {r s : ARes} {Q : AEx → AFr → Hp → Prop} (h : r = s) (h2 : ∃ e f X, s = some (e, f, X) ∧ Q e f X) : ∃ e f X, r = some (e, f, X) ∧ Q e f X := by
 subst h; exact h2
def Rl (X : Hp) (av : List Nat) (ty : TypeId) (sz : Nat) (v : AV) (rows : List (List AV)) : Prop := (rows = [] ∧ v = .nils) ∨ ∃ ob, ob ∉ av ∧ v = .sl ob sz 0 rows.length ∧ X.get ob = some ⟨ty, sz, true, rows⟩
theorem Rl.lift {X Y : Hp} {av : List Nat} {ty : TypeId} {sz : Nat} {v : AV} {rows : List (List AV)} (h : Rl X av ty sz v rows) (hg : ∀ ob, ob ∉ av → X.get ob = some ⟨ty, sz, true, rows⟩ → Y.get ob = some ⟨ty, sz, true, rows⟩) : Rl Y av ty sz v rows := by
 rcases h with h | ⟨ob, h1, h2, h3⟩
 ·exact .inl h
 ·exact .inr ⟨ob, h1, h2, hg ob h1 h3⟩
end Go.Abs
end
section
end
end
section
section
namespace Go.Abs
def cw (c : Bool) : BitVec 32 := if c then 1#32 else 0#32
structure Add3 where
 w : BitVec 32
 c : Bool
 v : Bool
def addM (a b : BitVec 32) (c : Bool) : Add3 :=
 ⟨a + b + cw c, decide (4294967296 ≤ a.toNat + b.toNat + (cw c).toNat), (a ^^^ (a + b + cw c)) &&& (b ^^^ (a + b + cw c)) &&& 2147483648#32 != 0#32⟩
structure Sh2 where
 w : BitVec 32
 c : Bool
def shN (kind : Nat) (a : BitVec 32) (n : Nat) : Sh2 :=
 match kind with
 | 0 => ⟨a <<< n, decide (n ≤ 32) && a.getLsbD (32 - n)⟩
 | 1 => ⟨a >>> n, a.getLsbD (n - 1)⟩
 | 2 => ⟨a.sshiftRight (min n 32), a.getLsbD (min n 32 - 1)⟩
 | _ => ⟨a.rotateRight (n % 32), (a.rotateRight (n % 32)).msb⟩
def z_df (kind : Nat) (a by_ : BitVec 32) (c : Bool) : Sh2 := if by_ = 0#32 then ⟨a, c⟩ else shN kind a by_.toNat
theorem z_yh (x : BitVec 32) : (x &&& 2147483648#32 != 0#32) = x.msb := by
 have h : x &&& 2147483648#32 = if x.msb then 2147483648#32 else 0#32 := by
  apply BitVec.eq_of_getLsbD_eq
  intro i hi
  have hb : (2147483648#32).getLsbD i = decide (i = 31) := by
   have : ∀ i : Fin 32, (2147483648#32).getLsbD i.val = decide (i.val = 31) := by decide
   exact this ⟨i, hi⟩
  rw [BitVec.getLsbD_and, hb]
  by_cases e : i = 31
  ·subst e
   rw [show x.getLsbD 31 = x.msb from by rw [BitVec.msb_eq_getLsbD_last]]
   cases x.msb <;> decide
  ·simp only [e, decide_false, Bool.and_false]
   cases x.msb
   ·simp
   ·simp [hb, e]
 rw [h]; cases x.msb <;> decide
end Go.Abs
end
section
namespace Go.Abs
def bls (l : List Bool) : List (List AV) := l.map fun b => [.bool b]
def atb (l : List Bool) (i : Nat) : Bool := l.getD i false
theorem z_uo (l : List Bool) (i : Nat) (h : i < l.length) : l[i]? = some (atb l i) := by
 unfold atb; rw [List.getD_eq_getElem?_getD, List.getElem?_eq_getElem h]; rfl
@[simp] theorem z_io (l : List Bool) : (bls l).length = l.length := by simp [bls]
@[simp] theorem bls_get (l : List Bool) (n : Nat) : (bls l)[n]? = if n < l.length then some [.bool (atb l n)] else none := by
 split
 ·rename_i h; simp [bls, z_uo l n h]
 ·rename_i h; simp [bls]; omega
@[simp] theorem bls_set (l : List Bool) (n : Nat) (x : Bool) : (bls l).set n [.bool x] = bls (l.set n x) := by simp [bls, List.map_set]
theorem z_qm (l : List Bool) (x : Bool) : bls l ++ [[.bool x]] = bls (l ++ [x]) := by simp [bls]
def tell (n : Nat) (f : Nat → Bool) : List Bool := (List.range n).map f
@[simp] theorem z_yi (n : Nat) (f : Nat → Bool) : (tell n f).length = n := by simp [tell]
theorem z_ga (n : Nat) (f : Nat → Bool) (i : Nat) (h : i < n) : atb (tell n f) i = f i := by
 have := z_uo (tell n f) i (by simpa using h)
 simp [tell, h] at this; exact this.symm
theorem z_mv (n : Nat) (f : Nat → Bool) : tell (n + 1) f = tell n f ++ [f n] := by simp [tell, List.range_succ]
theorem z_lq (n : Nat) (f : Nat → Bool) (k : Nat) (x : Bool) : (tell n f).set k x = tell n fun j => if j = k then x else f j := by
 apply List.ext_getElem (by simp)
 intro j h1 h2
 simp only [List.getElem_set, tell, List.getElem_map, List.getElem_range]
 by_cases e : k = j
 ·subst e; simp
 ·simp [e, show ¬ j = k from fun q => e q.symm]
theorem z_ew (n : Nat) (f g : Nat → Bool) (h : ∀ j, j < n → f j = g j) : tell n f = tell n g := by
 apply List.map_congr_left; intro j hj; exact h j (List.mem_range.1 hj)
theorem z_vf (n : Nat) (x : Bool) : List.replicate n x = tell n fun _ => x := by
 apply List.ext_getElem <;> simp [tell]
def bitsL (a : BitVec 32) : List Bool := tell 32 a.getLsbD
theorem z_vp (a : BitVec 32) (i : Nat) : a >>> i / 2#32 = a >>> (i + 1) := by
 apply BitVec.eq_of_toNat_eq
 rw [BitVec.toNat_udiv, BitVec.toNat_ushiftRight, BitVec.toNat_ushiftRight, Nat.shiftRight_succ]; rfl
theorem z_ym (a : BitVec 32) (i : Nat) : ((a >>> i % 2#32) == 1#32) = a.getLsbD i := by
 rw [Bool.eq_iff_iff, beq_iff_eq]
 have h : (a >>> i % 2#32).toNat = a.toNat / 2 ^ i % 2 := by rw [BitVec.toNat_umod, BitVec.toNat_ushiftRight, Nat.shiftRight_eq_div_pow]; rfl
 rw [← BitVec.testBit_toNat, Nat.testBit_eq_decide_div_mod_eq, decide_eq_true_eq, ← h]
 constructor
 ·intro q; rw [q]; rfl
 ·intro q; exact BitVec.eq_of_toNat_eq q
def bBlk (l : List Bool) : Blk := ⟨T.ty_bool, 1, true, bls l⟩
theorem z_uh (a : BitVec 32) (i : Nat) (hi : i < 32) (H : Hp) (b : Nat) (hb : H.get b = some (bBlk (tell i a.getLsbD))) (hw : H.WF) : ∃ H' b',
  z_bu.l0 (AFr.al [(0, W32 (a >>> i)), (3, .sl b 1 0 i), (4, .int .i64 i)]) H = some (.normal, AFr.al [(0, W32 (a >>> (i + 1))), (3, .sl b' 1 0 (i + 1)), (4, .int .i64 (i + 1 : Nat))], H') ∧ H'.get b' = some (bBlk (tell (i + 1) a.getLsbD)) ∧ H'.WF := by
 have hlt := hw _ _ hb
 have e1 := z_ym a i; have e2 := z_vp a i
 refine ⟨((H.push (bBlk [a.getLsbD i])).set b none).push (bBlk (tell (i + 1) a.getLsbD)), H.next + 1, ?_, by simp, Hp.WF.push (Hp.WF.set (Hp.WF.push hw) (by simp; omega))⟩
 simp only [bBlk] at hb ⊢
 simp -implicitDefEqProofs +contextual (disch := omega) [z_bu.l0, hb, e1, e2, z_mv, ← z_qm]
 simp [bls]
theorem z_p0 (a : BitVec 32) : z_bu.spec [W32 a] = some (.rsl 1 (bls (bitsL a))) := by
 obtain ⟨e, fr', X', hgo, rfl, b, rfl, hq⟩ := z_lj (f := z_bu.l0) (fun i fr X => ∃ b, fr = AFr.al [(0, W32 (a >>> i)), (3, .sl b 1 0 i), (4, .int .i64 i)] ∧ X.get b = some (bBlk (tell i a.getLsbD)) ∧ X.WF) 32
  (fun e fr X => e = .exit 0 ∧ ∃ b, fr = AFr.al [(0, W32 (a >>> 32)), (3, .sl b 1 0 32), (4, .int .i64 32), (7, .bool false)] ∧ X.get b = some (bBlk (bitsL a)))
  (fun k hk fr X hR => by
   obtain ⟨b, rfl, h1, h2⟩ := hR
   obtain ⟨H', b', q1, q2, q3⟩ := z_uh a k hk X b h1 h2
   exact ⟨_, _, q1, b', rfl, q2, q3⟩)
  (fun fr X hR => by
   obtain ⟨b, rfl, h1, h2⟩ := hR
   exact ⟨.exit 0, AFr.al [(0, W32 (a >>> 32)), (3, .sl b 1 0 32), (4, .int .i64 32), (7, .bool false)], X, by simp -implicitDefEqProofs +contextual (disch := omega) [z_bu.l0], by simp, rfl, b, rfl, h1⟩)
  (fr := AFr.al [(0, W32 (a >>> 0)), (3, .sl 0 1 0 0), (4, .int .i64 (0 : Nat))]) (H := Hp.empty.push (bBlk [])) ⟨0, rfl, by simp [tell], Hp.WF.push Hp.WF.empty⟩
 simp only [bBlk] at hgo hq
 rw [show ((0 : Nat) : Int) = 0 from rfl, show a >>> 0 = a from BitVec.ushiftRight_zero a] at hgo
 rw [show bls [] = ([] : List (List AV)) from rfl] at hgo
 have hl32 : (bitsL a).length = 32 := by simp [bitsL]
 have ht : (bls (bitsL a)).take 32 = bls (bitsL a) := List.take_of_length_le (by rw [z_io, hl32]; exact Nat.le_refl _)
 simp -implicitDefEqProofs +contextual (disch := omega) [z_bu.spec, z_bu, hgo, hq, hl32, ht]
theorem z_r7 (a : BitVec 32) (i : Nat) (hi : i < 32) (H : Hp) :
  z_br.l0 (AFr.al [(0, .rsl 1 (bls (bitsL a))), (3, W32 (a >>> (i + 1))), (4, .int .i64 i)]) H = some (.normal, AFr.al [(0, .rsl 1 (bls (bitsL a))), (3, W32 (a >>> i)), (4, .int .i64 ((i : Int) - 1))], H) := by
 have hl : (bitsL a).length = 32 := by simp [bitsL]
 have ha : atb (bitsL a) i = a.getLsbD i := z_ga 32 _ i hi
 have hs : ∀ b : Bool, a.getLsbD i = b → a >>> i = a >>> (i + 1) * 2#32 + cw b := by
  intro b hb
  apply BitVec.eq_of_toNat_eq
  have h := a.isLt
  have h2 : (a >>> i).toNat = a.toNat / 2 ^ i := by rw [BitVec.toNat_ushiftRight, Nat.shiftRight_eq_div_pow]
  have h3 : (a >>> (i + 1)).toNat = a.toNat / 2 ^ i / 2 := by rw [BitVec.toNat_ushiftRight, Nat.shiftRight_eq_div_pow, Nat.pow_succ, Nat.div_div_eq_div_mul]
  have h4 : a.toNat / 2 ^ i < 4294967296 := Nat.lt_of_le_of_lt (Nat.div_le_self _ _) h
  have h5 : (cw b).toNat = a.toNat / 2 ^ i % 2 := by
   rw [← hb, ← BitVec.testBit_toNat, Nat.testBit_eq_decide_div_mod_eq]
   by_cases q : a.toNat / 2 ^ i % 2 = 1
   ·simp [q, cw]
   ·have : a.toNat / 2 ^ i % 2 = 0 := by omega
    simp [this, cw]
  rw [BitVec.toNat_add, BitVec.toNat_mul, h2, h3, h5]
  simp only [BitVec.toNat_ofNat]
  omega
 cases hb : a.getLsbD i with
 | true =>
  rw [hb] at ha
  rw [hs true hb]
  simp -implicitDefEqProofs +contextual (disch := omega) [z_br.l0, hl, ha, cw]
 | false =>
  rw [hb] at ha
  rw [hs false hb]
  simp -implicitDefEqProofs +contextual (disch := omega) [z_br.l0, hl, ha, cw]
theorem z_mq (a : BitVec 32) (H : Hp) : ∀ i : Nat, i ≤ 32 → aloop z_br.l0 (AFr.al [(0, .rsl 1 (bls (bitsL a))), (3, W32 (a >>> i)), (4, .int .i64 ((i : Int) - 1))]) H =
  some (.exit 0, AFr.al [(0, .rsl 1 (bls (bitsL a))), (3, W32 a), (4, .int .i64 (-1)), (9, .bool false)], H)
 | 0, _ => by
  rw [show a >>> 0 = a from BitVec.ushiftRight_zero a]
  refine z_bz (by simp) ?_
  simp -implicitDefEqProofs +contextual (disch := omega) [z_br.l0]
 | i + 1, h => by
  have e1 := z_r7 a i (by omega) H
  rw [Int.natCast_succ, show (i : Int) + 1 - 1 = i from by omega, z_dl e1]
  exact z_mq a H i (by omega)
theorem Word_eq' (a : BitVec 32) : z_br.spec [.rsl 1 (bls (bitsL a))] = some (W32 a) := by
 have h := z_mq a Hp.empty 32 (by omega)
 have hl : (bitsL a).length = 32 := by simp [bitsL]
 rw [show a >>> 32 = 0#32 from BitVec.ushiftRight_eq_zero (by omega), show ((32 : Nat) : Int) - 1 = 31 from rfl] at h
 simp -implicitDefEqProofs +contextual (disch := omega) [z_br.spec, z_br, hl, h]
def sumL (a b : BitVec 32) (c : Bool) : BitVec 32 := a + b + BitVec.setWidth 32 (BitVec.ofBool c)
theorem z_yj (a b : BitVec 32) (c : Bool) : sumL a b c = (addM a b c).w := by cases c <;> rfl
theorem z_w4 (a b : BitVec 32) (c : Bool) (i : Nat) (hi : i < 32) (H : Hp) (o : Nat) (ho : H.get o = some (bBlk (tell i (sumL a b c).getLsbD))) (hw : H.WF) : ∃ H' o',
  z_c5.l0 z_bu.spec z_br.spec (AFr.al [(2, .bool (BitVec.carry i a b c)), (9, .rsl 1 (bls (bitsL a))), (10, .rsl 1 (bls (bitsL b))), (11, .sl o 1 0 i), (12, .int .i64 i)]) H =
   some (.normal, AFr.al [(2, .bool (BitVec.carry (i + 1) a b c)), (9, .rsl 1 (bls (bitsL a))), (10, .rsl 1 (bls (bitsL b))), (11, .sl o' 1 0 (i + 1)), (12, .int .i64 (i + 1 : Nat))], H') ∧
  H'.get o' = some (bBlk (tell (i + 1) (sumL a b c).getLsbD)) ∧ H'.WF := by
 have hlt := hw _ _ ho
 have la : (bitsL a).length = 32 := by simp [bitsL]
 have lb : (bitsL b).length = 32 := by simp [bitsL]
 have ha : atb (bitsL a) i = a.getLsbD i := z_ga 32 _ i hi
 have hb : atb (bitsL b) i = b.getLsbD i := z_ga 32 _ i hi
 have hs : (sumL a b c).getLsbD i = (a.getLsbD i ^^ (b.getLsbD i ^^ BitVec.carry i a b c)) := BitVec.getLsbD_add_add_bool hi a b c
 have hc : BitVec.carry (i + 1) a b c = Bool.atLeastTwo (a.getLsbD i) (b.getLsbD i) (BitVec.carry i a b c) := BitVec.carry_succ i a b c
 refine ⟨((H.push (bBlk [(sumL a b c).getLsbD i])).set o none).push (bBlk (tell (i + 1) (sumL a b c).getLsbD)), H.next + 1, ?_, by simp, Hp.WF.push (Hp.WF.set (Hp.WF.push hw) (by simp; omega))⟩
 rw [hc, z_mv]
 generalize (sumL a b c).getLsbD i = s at hs ⊢
 generalize BitVec.carry i a b c = x at hs ⊢
 generalize a.getLsbD i = y at ha hs ⊢
 generalize b.getLsbD i = z at hb hs ⊢
 simp only [bBlk] at ho ⊢
 subst hs
 cases x <;> cases y <;> cases z
 all_goals
  simp -implicitDefEqProofs +contextual (disch := omega) [z_c5.l0, ho, la, lb, ha, hb, ← z_qm, Bool.atLeastTwo]
  simp [bls]
theorem z_yw (a b : BitVec 32) (c : Bool) : z_c5.spec [W32 a, W32 b, .bool c] = some (.tup [W32 (addM a b c).w, .bool (addM a b c).c, .bool (addM a b c).v]) := by
 have la : (bitsL a).length = 32 := by simp [bitsL]
 have lb : (bitsL b).length = 32 := by simp [bitsL]
 have ls : (bitsL (addM a b c).w).length = 32 := by simp [bitsL]
 have ha : atb (bitsL a) 31 = a.msb := by rw [bitsL, z_ga 32 _ 31 (by omega), BitVec.msb_eq_getLsbD_last]
 have hb : atb (bitsL b) 31 = b.msb := by rw [bitsL, z_ga 32 _ 31 (by omega), BitVec.msb_eq_getLsbD_last]
 have hs : atb (bitsL (addM a b c).w) 31 = (addM a b c).w.msb := by rw [bitsL, z_ga 32 _ 31 (by omega), BitVec.msb_eq_getLsbD_last]
 have b1 := z_p0 a; have b2 := z_p0 b; have b3 := Word_eq' (addM a b c).w
 obtain ⟨e, fr', X', hgo, rfl, o, rfl, hq⟩ := z_lj (f := z_c5.l0 z_bu.spec z_br.spec) (fun i fr X => ∃ o, fr = AFr.al [(2, .bool (BitVec.carry i a b c)), (9, .rsl 1 (bls (bitsL a))), (10, .rsl 1 (bls (bitsL b))), (11, .sl o 1 0 i), (12, .int .i64 i)] ∧ X.get o = some (bBlk (tell i (sumL a b c).getLsbD)) ∧ X.WF) 32
  (fun e fr X => e = .exit 0 ∧ ∃ o, fr = AFr.al [(2, .bool (BitVec.carry 32 a b c)), (9, .rsl 1 (bls (bitsL a))), (10, .rsl 1 (bls (bitsL b))), (11, .sl o 1 0 32), (12, .int .i64 32), (20, .bool false)] ∧ X.get o = some (bBlk (bitsL (addM a b c).w)))
  (fun k hk fr X hR => by
   obtain ⟨o, rfl, h1, h2⟩ := hR
   obtain ⟨H', o', q1, q2, q3⟩ := z_w4 a b c k hk X o h1 h2
   exact ⟨_, _, q1, o', rfl, q2, q3⟩)
  (fun fr X hR => by
   obtain ⟨o, rfl, h1, h2⟩ := hR
   refine ⟨.exit 0, AFr.al [(2, .bool (BitVec.carry 32 a b c)), (9, .rsl 1 (bls (bitsL a))), (10, .rsl 1 (bls (bitsL b))), (11, .sl o 1 0 32), (12, .int .i64 32), (20, .bool false)], X, ?_, by simp, rfl, o, rfl, by rw [h1, z_yj]; rfl⟩
   simp -implicitDefEqProofs +contextual (disch := omega) [z_c5.l0])
  (fr := AFr.al [(2, .bool (BitVec.carry 0 a b c)), (9, .rsl 1 (bls (bitsL a))), (10, .rsl 1 (bls (bitsL b))), (11, .sl 0 1 0 0), (12, .int .i64 (0 : Nat))]) (H := Hp.empty.push (bBlk [])) ⟨0, rfl, by simp [tell], Hp.WF.push Hp.WF.empty⟩
 simp only [bBlk] at hgo hq
 rw [show ((0 : Nat) : Int) = 0 from rfl, BitVec.carry_zero] at hgo
 rw [show bls [] = ([] : List (List AV)) from rfl] at hgo
 have hc : BitVec.carry 32 a b c = (addM a b c).c := by
  have h1 := a.isLt; have h2 := b.isLt
  simp only [BitVec.carry, addM]
  rw [Nat.mod_eq_of_lt h1, Nat.mod_eq_of_lt h2]
  cases c <;> rfl
 have hv : (addM a b c).v = ((a.msb == b.msb) && ((addM a b c).w.msb != a.msb)) := by
  show (_ &&& 2147483648#32 != 0#32) = _
  rw [z_yh]
  simp only [BitVec.msb_and, BitVec.msb_xor]
  show ((a.msb ^^ (addM a b c).w.msb) && (b.msb ^^ (addM a b c).w.msb)) = _
  cases a.msb <;> cases b.msb <;> cases (addM a b c).w.msb <;> rfl
 rw [hc] at hgo
 have ht : (bls (bitsL (addM a b c).w)).take 32 = bls (bitsL (addM a b c).w) := List.take_of_length_le (by simp [bitsL])
 rw [hv]
 simp -implicitDefEqProofs +contextual (disch := omega) [z_c5.spec, z_c5, hgo, hq, b1, b2, b3, la, lb, ls, ha, hb, hs, ht]
 cases a.msb <;> cases b.msb <;> cases (addM a b c).w.msb <;> rfl
def stepK (kind : Nat) (v : BitVec 32) : BitVec 32 :=
 match kind with
 | 0 => v <<< 1
 | 1 => v >>> 1
 | 2 => v.sshiftRight 1
 | _ => v.rotateRight 1
def movK (kind : Nat) (v : BitVec 32) (k : Nat) : List Bool := tell 32 fun j => decide (j < k) && (if kind = 0 then decide (0 < j) && v.getLsbD (j - 1) else v.getLsbD (j + 1))
noncomputable abbrev rshL1 := z_aq.l1 z_bu.spec z_br.spec
noncomputable abbrev rshL := z_aq.l0 z_bu.spec z_br.spec
def z_if (H : Hp) (b : AV) (v : BitVec 32) : Prop := b = .rsl 1 (bls (bitsL v)) ∨ ∃ o, b = .sl o 1 0 32 ∧ H.get o = some (bBlk (bitsL v))
theorem z_v7 (kind : Nat) (hk3 : kind ≤ 3) (v : BitVec 32) (k : Nat) (hk : k < 32) (H : Hp) (b a2 a11 : AV) (n : Nat) (hb : z_if H b v) (hn : ∀ o l, b = .sl o 1 0 l → o ≠ n) :
  rshL1 (AFr.al [(0, .int .i64 kind), (2, a2), (10, b), (11, a11), (12, .sl n 1 0 32), (13, .int .i64 k)]) (H.set n (some (bBlk (movK kind v k)))) =
   some (.normal, AFr.al [(0, .int .i64 kind), (2, a2), (10, b), (11, a11), (12, .sl n 1 0 32), (13, .int .i64 (k + 1 : Nat))], H.set n (some (bBlk (movK kind v (k + 1))))) := by
 have lv : (bitsL v).length = 32 := by simp [bitsL]
 have lm : (movK kind v k).length = 32 := by simp [movK]
 have ht : ∀ i, i < 32 → atb (bitsL v) i = v.getLsbD i := fun i hi => z_ga 32 _ i hi
 have hset : ∀ x : Bool, x = (if kind = 0 then decide (0 < k) && v.getLsbD (k - 1) else v.getLsbD (k + 1)) → (movK kind v k).set k x = movK kind v (k + 1) := by
  intro x hx
  unfold movK
  rw [z_lq]
  refine z_ew _ _ _ fun j hj => ?_
  by_cases e : j = k
  ·subst e; simp [hx]
  ·rw [if_neg e]
   have : decide (j < k + 1) = decide (j < k) := by rw [decide_eq_decide]; omega
   rw [this]
 have hsame : (if kind = 0 then decide (0 < k) && v.getLsbD (k - 1) else v.getLsbD (k + 1)) = false → movK kind v (k + 1) = movK kind v k := by
  intro hx
  unfold movK
  refine z_ew _ _ _ fun j hj => ?_
  by_cases e : j = k
  ·subst e; simp only [hx, Bool.and_false]
  ·have : decide (j < k + 1) = decide (j < k) := by rw [decide_eq_decide]; omega
   rw [this]
 by_cases k0 : kind = 0
 ·subst k0
  by_cases hk0 : k = 0
  ·subst hk0
   rw [hsame (by simp)]
   rcases hb with rfl | ⟨o, rfl, ho⟩
   ·simp -implicitDefEqProofs +contextual (disch := omega) [rshL1, z_aq.l1]
   ·simp -implicitDefEqProofs +contextual (disch := omega) [rshL1, z_aq.l1]
  ·have h1 := hset (v.getLsbD (k - 1)) (by simp; omega)
   have h2 := ht (k - 1) (by omega)
   have h3 : ((k : Int) - 1).toNat = k - 1 := by omega
   have h4 : 0 < k := by omega
   rw [← h1]
   rcases hb with rfl | ⟨o, rfl, ho⟩
   ·simp -implicitDefEqProofs +contextual (disch := omega) [rshL1, z_aq.l1, bBlk, lv, lm, h2, h3, h4]
   ·have hno := hn o 32 rfl
    simp only [bBlk] at ho
    simp -implicitDefEqProofs +contextual (disch := omega) [rshL1, z_aq.l1, bBlk, lv, lm, h2, h3, h4, ho, hno]
 ·have k0i : ¬ (kind : Int) = 0 := by omega
  have k1i : 0 < (kind : Int) := by omega
  have k1n : 0 < kind := by omega
  by_cases hk31 : k = 31
  ·subst hk31
   rw [hsame (by simp [k0])]
   rcases hb with rfl | ⟨o, rfl, ho⟩
   ·simp -implicitDefEqProofs +contextual (disch := omega) [rshL1, z_aq.l1, k0, k0i, k1i, k1n]
   ·simp -implicitDefEqProofs +contextual (disch := omega) [rshL1, z_aq.l1, k0, k0i, k1i, k1n]
  ·have h1 := hset (v.getLsbD (k + 1)) (by simp [k0])
   have h2 := ht (k + 1) (by omega)
   have h3 : ((k : Int) + 1).toNat = k + 1 := by omega
   have h4 : k < 31 := by omega
   have h5 : (k : Int) < 31 := by omega
   rw [← h1]
   rcases hb with rfl | ⟨o, rfl, ho⟩
   ·simp -implicitDefEqProofs +contextual (disch := omega) [rshL1, z_aq.l1, bBlk, lv, lm, h2, h3, h4, h5, k0, k0i, k1i, k1n]
   ·have hno := hn o 32 rfl
    simp only [bBlk] at ho
    simp -implicitDefEqProofs +contextual (disch := omega) [rshL1, z_aq.l1, bBlk, lv, lm, h2, h3, h4, h5, k0, k0i, k1i, k1n, ho, hno]
theorem z_v8 (kind : Nat) (hk3 : kind ≤ 3) (v : BitVec 32) (H : Hp) (b a2 a11 : AV) (n : Nat) (hb : z_if H b v) (hn : ∀ o l, b = .sl o 1 0 l → o ≠ n) :
  aloop rshL1 (AFr.al [(0, .int .i64 kind), (2, a2), (10, b), (11, a11), (12, .sl n 1 0 32), (13, .int .i64 0)]) (H.set n (some (bBlk (movK kind v 0)))) =
   some (.exit 2, AFr.al [(0, .int .i64 kind), (2, a2), (10, b), (11, a11), (12, .sl n 1 0 32), (13, .int .i64 32), (42, .bool false)], H.set n (some (bBlk (movK kind v 32)))) := by
 have h := z_qp (f := rshL1) (fun k => AFr.al [(0, .int .i64 kind), (2, a2), (10, b), (11, a11), (12, .sl n 1 0 32), (13, .int .i64 k)]) (fun k => H.set n (some (bBlk (movK kind v k)))) 32
  (fun k hk => z_v7 kind hk3 v k hk H b a2 a11 n hb hn) 0 (by omega)
 rw [show ((0 : Nat) : Int) = 0 from rfl] at h
 rw [h]
 refine z_bz (by simp) ?_
 simp -implicitDefEqProofs +contextual (disch := omega) [rshL1, z_aq.l1]
end Go.Abs
end
section
namespace Go.Abs
theorem z_h1 (H : Hp) (x y : Blk) : (H.push x).set H.next (some y) = H.push y := by
 refine Hp.eq_of rfl (funext fun c => ?_)
 rw [Hp.get_set, Hp.get_push, Hp.get_push]; split <;> rfl
theorem z_v9 (H : Hp) (kind : Nat) (v : BitVec 32) : z_gs (some ⟨T.ty_bool, 1, 1, [(.bool false)]⟩) (.int .i64 32) (.int .i64 32) H = some (.sl H.next 1 0 32, H.push (bBlk (movK kind v 0))) := by
 have h : movK kind v 0 = List.replicate 32 false := by rw [z_vf]; exact z_ew _ _ _ fun j hj => by simp
 rw [h]; rfl
theorem mov_0 (v : BitVec 32) : movK 0 v 32 = bitsL (stepK 0 v) :=
 z_ew _ _ _ fun j hj => by
  rcases j with _ | n
  ·simp [stepK]
  ·have h2 : n < 32 := by omega
   simp [stepK, hj, BitVec.getLsbD_eq_getElem h2]
theorem mov_1 (v : BitVec 32) : movK 1 v 32 = bitsL (stepK 1 v) :=
 z_ew _ _ _ fun j hj => by simp [stepK, hj, Nat.add_comm]
theorem mov_2 (v : BitVec 32) : (movK 2 v 32).set 31 v.msb = bitsL (stepK 2 v) := by
 unfold movK; rw [z_lq]
 refine z_ew _ _ _ fun j hj => ?_
 simp only [stepK, BitVec.getLsbD_sshiftRight]
 by_cases e : j = 31
 ·subst e; simp
 ·have h1 : 1 + j < 32 := by omega
  have h2 : j + 1 = 1 + j := by omega
  have h3 : ¬ 32 ≤ j := by omega
  simp [e, hj, h1, h2, h3]
theorem mov_3 (v : BitVec 32) : (movK 3 v 32).set 31 (v.getLsbD 0) = bitsL (stepK 3 v) := by
 unfold movK; rw [z_lq]
 refine z_ew _ _ _ fun j hj => ?_
 simp only [stepK, BitVec.getLsbD_rotateRight]
 by_cases e : j = 31
 ·subst e; simp
 ·have h1 : j < 31 := by omega
  have h2 : j + 1 = 1 + j := by omega
  simp [e, hj, h1, h2]
def outK (kind : Nat) (v : BitVec 32) : Bool := if kind = 0 then v.msb else v.getLsbD 0
theorem z_yn (kind : Nat) (hk3 : kind ≤ 3) (v by_ : BitVec 32) (c : Bool) (i : Nat) (hi : i < by_.toNat) (hi70 : i < 70) (H : Hp) (hw : H.WF) (b : AV) (hb : z_if H b v) : ∃ H' b',
  rshL (AFr.al [(0, .int .i64 kind), (2, W32 by_), (3, .bool c), (10, b), (11, W32 (BitVec.ofNat 32 i))]) H =
   some (.normal, AFr.al [(0, .int .i64 kind), (2, W32 by_), (3, .bool (outK kind v)), (10, b'), (11, W32 (BitVec.ofNat 32 (i + 1)))], H') ∧ z_if H' b' (stepK kind v) ∧ H'.WF := by
 have lv : (bitsL v).length = 32 := by simp [bitsL]
 have lm : (movK kind v 32).length = 32 := by simp [movK]
 have h31 : atb (bitsL v) 31 = v.msb := by rw [bitsL, z_ga 32 _ 31 (by omega), BitVec.msb_eq_getLsbD_last]
 have h0 : atb (bitsL v) 0 = v.getLsbD 0 := z_ga 32 _ 0 (by omega)
 have hmk := z_v9 H kind v
 have hbn : ∀ o l, b = .sl o 1 0 l → o < H.next := fun o l e => by
  rcases hb with rfl | ⟨o', rfl, ho⟩
  ·cases e
  ·cases e; exact hw _ _ ho
 have hb' : z_if (H.push (bBlk (movK kind v 0))) b v := by
  rcases hb with rfl | ⟨o, rfl, ho⟩
  ·exact .inl rfl
  ·have := hw _ _ ho
   exact .inr ⟨o, rfl, by rw [Hp.get_push, if_neg (by omega)]; exact ho⟩
 have hl := z_v8 kind hk3 v (H.push (bBlk (movK kind v 0))) b (W32 by_) (W32 (BitVec.ofNat 32 i)) H.next hb' (fun o l e => by have := hbn o l e; omega)
 rw [z_h1, z_h1] at hl
 have hlt : BitVec.ofNat 32 i < by_ := by rw [BitVec.lt_def, BitVec.toNat_ofNat]; omega
 have hlt70 : BitVec.ofNat 32 i < 70#32 := by rw [BitVec.lt_def, BitVec.toNat_ofNat]; simp; omega
 have hsucc : BitVec.ofNat 32 i + 1#32 = BitVec.ofNat 32 (i + 1) := by apply BitVec.eq_of_toNat_eq; simp
 have fin : ∀ l : List Bool, l = bitsL (stepK kind v) → z_if (H.push (bBlk l)) (.sl H.next 1 0 32) (stepK kind v) ∧ (H.push (bBlk l)).WF := fun l e => ⟨.inr ⟨H.next, rfl, by simp [e]⟩, Hp.WF.push hw⟩
 have m0 := mov_0 v; have m1 := mov_1 v; have m2 := mov_2 v; have m3 := mov_3 v
 match kind, hk3 with
 | 0, _ =>
  refine ⟨H.push (bBlk (movK 0 v 32)), .sl H.next 1 0 32, ?_, fin _ m0⟩
  push_cast at hl
  simp only [bBlk] at hmk hl ⊢
  rcases hb with rfl | ⟨o, rfl, ho⟩
  ·simp -implicitDefEqProofs +contextual (disch := omega) [rshL, z_aq.l0, hmk, hl, hlt, hlt70, hsucc, h31, h0, lv, outK, -z_fj]
  ·have hon := hw _ _ ho
   simp only [bBlk] at ho
   simp -implicitDefEqProofs +contextual (disch := omega) [rshL, z_aq.l0, hmk, hl, hlt, hlt70, hsucc, h31, h0, lv, outK, ho, -z_fj]
 | 1, _ =>
  refine ⟨H.push (bBlk (movK 1 v 32)), .sl H.next 1 0 32, ?_, fin _ m1⟩
  push_cast at hl
  simp only [bBlk] at hmk hl ⊢
  rcases hb with rfl | ⟨o, rfl, ho⟩
  ·simp -implicitDefEqProofs +contextual (disch := omega) [rshL, z_aq.l0, hmk, hl, hlt, hlt70, hsucc, h31, h0, lv, outK, -z_fj]
  ·have hon := hw _ _ ho
   simp only [bBlk] at ho
   simp -implicitDefEqProofs +contextual (disch := omega) [rshL, z_aq.l0, hmk, hl, hlt, hlt70, hsucc, h31, h0, lv, outK, ho, -z_fj]
 | 2, _ =>
  refine ⟨H.push (bBlk ((movK 2 v 32).set 31 v.msb)), .sl H.next 1 0 32, ?_, fin _ m2⟩
  have ps := fun x y => z_h1 H x y
  push_cast at hl
  simp only [bBlk] at hmk hl ps ⊢
  rcases hb with rfl | ⟨o, rfl, ho⟩
  ·simp -implicitDefEqProofs +contextual (disch := omega) [rshL, z_aq.l0, hmk, hl, hlt, hlt70, hsucc, h31, h0, lv, lm, outK, ps, -z_fj]
  ·have hon := hw _ _ ho
   simp only [bBlk] at ho
   simp -implicitDefEqProofs +contextual (disch := omega) [rshL, z_aq.l0, hmk, hl, hlt, hlt70, hsucc, h31, h0, lv, lm, outK, ho, ps, -z_fj]
 | 3, _ =>
  refine ⟨H.push (bBlk ((movK 3 v 32).set 31 (v.getLsbD 0))), .sl H.next 1 0 32, ?_, fin _ m3⟩
  have ps := fun x y => z_h1 H x y
  push_cast at hl
  simp only [bBlk] at hmk hl ps ⊢
  rcases hb with rfl | ⟨o, rfl, ho⟩
  ·simp -implicitDefEqProofs +contextual (disch := omega) [rshL, z_aq.l0, hmk, hl, hlt, hlt70, hsucc, h31, h0, lv, lm, outK, ps, -z_fj]
  ·have hon := hw _ _ ho
   simp only [bBlk] at ho
   simp -implicitDefEqProofs +contextual (disch := omega) [rshL, z_aq.l0, hmk, hl, hlt, hlt70, hsucc, h31, h0, lv, lm, outK, ho, ps, -z_fj]
def sIter (kind : Nat) : Nat → BitVec 32 × Bool → BitVec 32 × Bool
 | 0, s => s
 | d + 1, s => sIter kind d (stepK kind s.1, outK kind s.1)
theorem z_ih (kind : Nat) : ∀ (d : Nat) (s : BitVec 32 × Bool), sIter kind (d + 1) s = (stepK kind (sIter kind d s).1, outK kind (sIter kind d s).1)
 | 0, s => rfl
 | d + 1, s => by
  show sIter kind (d + 1) (stepK kind s.1, outK kind s.1) = _
  rw [z_ih kind d]; rfl
theorem rotb (v : BitVec 32) (k i : Nat) (hi : i < 32) : (v.rotateRight k).getLsbD i = v.getLsbD ((k + i) % 32) := by
 rw [BitVec.getLsbD_rotateRight]
 by_cases h : i < 32 - k % 32
 ·rw [decide_eq_true h, cond_true]; congr 1; omega
 ·rw [decide_eq_false h, cond_false, decide_eq_true hi, Bool.true_and]; congr 1; omega
theorem z_vt (kind : Nat) (hk : kind ≤ 3) (v : BitVec 32) (n : Nat) (hn : 0 < n) : stepK kind (shN kind v n).w = (shN kind v (n + 1)).w ∧ outK kind (shN kind v n).w = (shN kind v (n + 1)).c := by
 match kind, hk with
 | 0, _ =>
  refine ⟨?_, ?_⟩
  ·show v <<< n <<< 1 = v <<< (n + 1)
   rw [BitVec.shiftLeft_add]
  ·show (v <<< n).msb = (decide (n + 1 ≤ 32) && v.getLsbD (32 - (n + 1)))
   rw [BitVec.msb_eq_getLsbD_last, BitVec.getLsbD_shiftLeft]
   by_cases h : n ≤ 31
   ·have h1 : ¬ 31 < n := by omega
    have h2 : n + 1 ≤ 32 := by omega
    rw [show 32 - (n + 1) = 31 - n from by omega]
    simp [h1, h2]
   ·have h1 : 31 < n := by omega
    have h2 : ¬ n + 1 ≤ 32 := by omega
    simp [h1, h2]
 | 1, _ =>
  refine ⟨?_, ?_⟩
  ·show v >>> n >>> 1 = v >>> (n + 1)
   rw [BitVec.shiftRight_add]
  ·show (v >>> n).getLsbD 0 = v.getLsbD (n + 1 - 1)
   rw [BitVec.getLsbD_ushiftRight]; simp
 | 2, _ =>
  refine ⟨?_, ?_⟩
  ·show (v.sshiftRight (min n 32)).sshiftRight 1 = v.sshiftRight (min (n + 1) 32)
   apply BitVec.eq_of_getLsbD_eq
   intro i hi
   simp only [BitVec.getLsbD_sshiftRight, BitVec.msb_sshiftRight]
   by_cases h : n < 32
   ·rw [show min n 32 = n from by omega, show min (n + 1) 32 = n + 1 from by omega]
    by_cases h1 : 1 + i < 32
    ·have h2 : n + (1 + i) = n + 1 + i := by omega
     simp [h1, h2]
    ·have h2 : ¬ n + 1 + i < 32 := by omega
     simp [h1, h2]
   ·rw [show min n 32 = 32 from by omega, show min (n + 1) 32 = 32 from by omega]
    by_cases h1 : 1 + i < 32 <;> simp [h1]
  ·show (v.sshiftRight (min n 32)).getLsbD 0 = v.getLsbD (min (n + 1) 32 - 1)
   rw [BitVec.getLsbD_sshiftRight]
   by_cases h : n < 32
   ·rw [show min n 32 = n from by omega, show min (n + 1) 32 - 1 = n from by omega]
    simp [h]
   ·rw [show min n 32 = 32 from by omega, show min (n + 1) 32 - 1 = 31 from by omega]
    simp [BitVec.msb_eq_getLsbD_last]
 | 3, _ =>
  have h1 : (v.rotateRight (n % 32)).rotateRight 1 = v.rotateRight ((n + 1) % 32) := by
   apply BitVec.eq_of_getLsbD_eq
   intro i hi
   rw [rotb _ _ _ hi, rotb _ _ _ (Nat.mod_lt _ (by omega)), rotb _ _ _ hi]
   congr 1; omega
  refine ⟨h1, ?_⟩
  show (v.rotateRight (n % 32)).getLsbD 0 = (v.rotateRight ((n + 1) % 32)).msb
  rw [← h1, BitVec.msb_eq_getLsbD_last, rotb _ 1 _ (by omega)]
theorem z_p6 (kind : Nat) (hk : kind ≤ 3) (v : BitVec 32) (c : Bool) : ∀ n : Nat, sIter kind (n + 1) (v, c) = ((shN kind v (n + 1)).w, (shN kind v (n + 1)).c)
 | 0 => by
  rw [z_ih]
  show (stepK kind v, outK kind v) = _
  match kind, hk with
  | 0, _ => simp [stepK, outK, shN, BitVec.msb_eq_getLsbD_last]
  | 1, _ => simp [stepK, outK, shN]
  | 2, _ => simp [stepK, outK, shN]
  | 3, _ =>
   refine Prod.ext rfl ?_
   show v.getLsbD 0 = (v.rotateRight 1).msb
   rw [BitVec.msb_eq_getLsbD_last, BitVec.getLsbD_rotateRight]; simp
 | n + 1 => by
  rw [z_ih, z_p6 kind hk v c n]
  obtain ⟨h1, h2⟩ := z_vt kind hk v (n + 1) (by omega)
  rw [h1, h2]
theorem z_sm (kind : Nat) (hk3 : kind ≤ 3) (by_ : BitVec 32) : ∀ (d i : Nat) (v : BitVec 32) (c : Bool) (H : Hp) (b : AV), i + d = min by_.toNat 70 → H.WF → z_if H b v → ∃ H' b',
  aloop rshL (AFr.al [(0, .int .i64 kind), (2, W32 by_), (3, .bool c), (10, b), (11, W32 (BitVec.ofNat 32 i))]) H =
   some (.exit 0, AFr.al [(0, .int .i64 kind), (2, W32 by_), (3, .bool (sIter kind d (v, c)).2), (10, b'), (11, W32 (BitVec.ofNat 32 (i + d))), (37, .bool false)], H') ∧ z_if H' b' (sIter kind d (v, c)).1
 | 0, i, v, c, H, b, hi, hw, hb => by
  refine ⟨H, b, z_bz (by simp) ?_, hb⟩
  by_cases h : by_.toNat ≤ 70
  ·have h1 : ¬ BitVec.ofNat 32 i < by_ := by rw [BitVec.lt_def, BitVec.toNat_ofNat]; omega
   simp -implicitDefEqProofs +contextual (disch := omega) [rshL, z_aq.l0, h1, sIter]
  ·have h1 : ¬ BitVec.ofNat 32 i < 70#32 := by rw [BitVec.lt_def, BitVec.toNat_ofNat]; simp; omega
   have h2 : BitVec.ofNat 32 i < by_ := by rw [BitVec.lt_def, BitVec.toNat_ofNat]; omega
   simp -implicitDefEqProofs +contextual (disch := omega) [rshL, z_aq.l0, h1, h2, sIter]
 | d + 1, i, v, c, H, b, hi, hw, hb => by
  obtain ⟨H1, b1, q1, q2, q3⟩ := z_yn kind hk3 v by_ c i (by omega) (by omega) H hw b hb
  obtain ⟨H2, b2, p1, p2⟩ := z_sm kind hk3 by_ d (i + 1) (stepK kind v) (outK kind v) H1 b1 (by omega) q3 q2
  rw [show i + 1 + d = i + (d + 1) from by omega] at p1
  exact ⟨H2, b2, by rw [z_dl q1]; exact p1, p2⟩
theorem z_yp (kind : Nat) (hk : kind ≤ 2) (v : BitVec 32) (n : Nat) (hn : 70 ≤ n) : shN kind v n = shN kind v 70 := by
 match kind, hk with
 | 0, _ =>
  have h1 : v <<< n = v <<< 70 := by rw [BitVec.shiftLeft_eq_zero (by omega), BitVec.shiftLeft_eq_zero (by omega)]
  have h2 : ¬ n ≤ 32 := by omega
  simp [shN, h1, h2]
 | 1, _ =>
  have h1 : v >>> n = v >>> 70 := by rw [BitVec.ushiftRight_eq_zero (by omega), BitVec.ushiftRight_eq_zero (by omega)]
  have h2 : v.getLsbD (n - 1) = v.getLsbD 69 := by rw [BitVec.getLsbD_of_ge _ _ (by omega), BitVec.getLsbD_of_ge _ _ (by omega)]
  show Sh2.mk (v >>> n) (v.getLsbD (n - 1)) = Sh2.mk (v >>> 70) (v.getLsbD 69)
  rw [h1, h2]
 | 2, _ =>
  show Sh2.mk (v.sshiftRight (min n 32)) (v.getLsbD (min n 32 - 1)) = Sh2.mk (v.sshiftRight (min 70 32)) (v.getLsbD (min 70 32 - 1))
  rw [show min n 32 = min 70 32 from by omega]
theorem z_la (kind : Nat) (hk : kind ≤ 3) (a by_ : BitVec 32) (c : Bool) (h3 : kind = 3 → by_.toNat ≤ 64) : ∃ H' b',
  aloop rshL (AFr.al [(0, .int .i64 kind), (2, W32 by_), (3, .bool c), (10, .rsl 1 (bls (bitsL a))), (11, W32 0#32)]) Hp.empty =
   some (.exit 0, AFr.al [(0, .int .i64 kind), (2, W32 by_), (3, .bool (z_df kind a by_ c).c), (10, b'), (11, W32 (BitVec.ofNat 32 (min by_.toNat 70))), (37, .bool false)], H') ∧ z_if H' b' (z_df kind a by_ c).w := by
 obtain ⟨H', b', h1, h2⟩ := z_sm kind hk by_ (min by_.toNat 70) 0 a c Hp.empty (.rsl 1 (bls (bitsL a))) (by omega) Hp.WF.empty (.inl rfl)
 rw [Nat.zero_add] at h1
 have key : sIter kind (min by_.toNat 70) (a, c) = ((z_df kind a by_ c).w, (z_df kind a by_ c).c) := by
  unfold z_df
  by_cases h0 : by_ = 0#32
  ·subst h0; rfl
  ·have hp : 0 < by_.toNat := Nat.pos_of_ne_zero fun e => h0 (BitVec.eq_of_toNat_eq (by simpa using e))
   rw [if_neg h0, show min by_.toNat 70 = min by_.toNat 70 - 1 + 1 from by omega, z_p6 kind hk a c, show min by_.toNat 70 - 1 + 1 = min by_.toNat 70 from by omega]
   by_cases h70 : by_.toNat ≤ 70
   ·rw [Nat.min_eq_left h70]
   ·have hk2 : kind ≤ 2 := by
     by_cases e : kind = 3
     ·have := h3 e; omega
     ·omega
    rw [Nat.min_eq_right (by omega), z_yp kind hk2 a by_.toNat (by omega)]
 rw [key] at h1 h2
 exact ⟨H', b', h1, h2⟩
theorem z_s8 (kind : Nat) (hk : kind ≤ 3) (a by_ : BitVec 32) (c : Bool) : z_aq.spec [.int .i64 (kind : Nat), W32 a, W32 by_, .bool c] = some (.tup [W32 (z_df kind a by_ c).w, .bool (z_df kind a by_ c).c]) := by
 have b1 := z_p0 a
 have k0 : ¬ (kind : Int) < 0 := by omega
 have k1 : ¬ (3 : Int) < kind := by omega
 by_cases h3 : kind = 3 ∧ 64#32 < by_
 ·obtain ⟨h4, h5⟩ := h3
  obtain ⟨q, hq⟩ : ∃ q : BitVec 32, 32#32 + by_ % 32#32 = q := ⟨_, rfl⟩
  have hqn : q.toNat = 32 + by_.toNat % 32 := by rw [← hq, BitVec.toNat_add, BitVec.toNat_umod]; simp; omega
  have hb5 : 64 < by_.toNat := by rw [BitVec.lt_def] at h5; simpa using h5
  obtain ⟨H', b', h1, h2⟩ := z_la kind hk a q c (fun _ => by omega)
  have e : z_df kind a q c = z_df kind a by_ c := by
   subst h4
   unfold z_df
   rw [if_neg (fun e => by rw [e] at hqn; simp at hqn; omega), if_neg (fun e => by rw [e] at hb5; simp at hb5)]
   show Sh2.mk (a.rotateRight (q.toNat % 32)) (a.rotateRight (q.toNat % 32)).msb = Sh2.mk (a.rotateRight (by_.toNat % 32)) (a.rotateRight (by_.toNat % 32)).msb
   rw [show q.toNat % 32 = by_.toNat % 32 from by omega]
  rw [e] at h1 h2
  have hw := Word_eq' (z_df kind a by_ c).w
  have lv : (bitsL (z_df kind a by_ c).w).length = 32 := by simp [bitsL]
  have ht : (bls (bitsL (z_df kind a by_ c).w)).take 32 = bls (bitsL (z_df kind a by_ c).w) := List.take_of_length_le (by rw [z_io, lv]; exact Nat.le_refl _)
  subst h4
  push_cast at h1 ⊢
  rcases h2 with rfl | ⟨o, rfl, ho⟩
  ·simp -implicitDefEqProofs +contextual (disch := omega) [z_aq.spec, z_aq, b1, h5, hq, h1, hw]
  ·simp only [bBlk] at ho
   simp -implicitDefEqProofs +contextual (disch := omega) [z_aq.spec, z_aq, b1, h5, hq, h1, hw, ho, lv, ht]
 ·obtain ⟨H', b', h1, h2⟩ := z_la kind hk a by_ c (fun e => by
   have : ¬ 64#32 < by_ := fun q => h3 ⟨e, q⟩
   rw [BitVec.lt_def] at this; simp at this; omega)
  have hw := Word_eq' (z_df kind a by_ c).w
  have lv : (bitsL (z_df kind a by_ c).w).length = 32 := by simp [bitsL]
  have ht : (bls (bitsL (z_df kind a by_ c).w)).take 32 = bls (bitsL (z_df kind a by_ c).w) := List.take_of_length_le (by rw [z_io, lv]; exact Nat.le_refl _)
  by_cases h4 : kind = 3
  ·have h5 : ¬ 64#32 < by_ := fun q => h3 ⟨h4, q⟩
   subst h4
   push_cast at h1 ⊢
   rcases h2 with rfl | ⟨o, rfl, ho⟩
   ·simp -implicitDefEqProofs +contextual (disch := omega) [z_aq.spec, z_aq, b1, h5, h1, hw]
   ·simp only [bBlk] at ho
    simp -implicitDefEqProofs +contextual (disch := omega) [z_aq.spec, z_aq, b1, h5, h1, hw, ho, lv, ht]
  ·have h4i : ¬ (kind : Int) = 3 := by omega
   rcases h2 with rfl | ⟨o, rfl, ho⟩
   ·simp -implicitDefEqProofs +contextual (disch := omega) [z_aq.spec, z_aq, b1, h4, h4i, h1, hw, k0, k1]
   ·simp only [bBlk] at ho
    simp -implicitDefEqProofs +contextual (disch := omega) [z_aq.spec, z_aq, b1, h4, h4i, h1, hw, ho, lv, ht, k0, k1]
end Go.Abs
end
section
end
end
section
namespace Go.Abs
structure MemM where
 code : List (BitVec 16)
 words : List (BitVec 32)
 tape : List (BitVec 32)
 drawn : Nat
 bus : BitVec 32
def memBlk (wb : Nat) (m : MemM) : Blk := ⟨T.ty_mem_Mem, 5, false, [[.rsl 1 (w16s m.code), .sl wb 1 0 m.words.length, .rsl 1 (w32s m.tape), .int .i64 m.drawn, W32 m.bus]]⟩
def z_d3 (l : List (BitVec 32)) : Blk := ⟨T.ty_uint32, 1, true, w32s l⟩
def Hp.mem (H : Hp) (b wb : Nat) (m : MemM) : Hp := (H.set wb (some (z_d3 m.words))).set b (some (memBlk wb m))
section
variable (H : Hp) (b wb : Nat) (m m' : MemM)
@[simp] theorem mem_next : (H.mem b wb m).next = H.next := rfl
end
def MemM.new (code : List (BitVec 16)) (n : Int) (tape : List (BitVec 32)) : MemM := ⟨code.take 60000, List.replicate (min (max n 0) 16000).toNat 0#32, tape, 0, 0#32⟩
def wslot (a : BitVec 32) : Nat := (a - 536870912#32).toNat / 4
def MemM.at (m : MemM) (a : BitVec 32) : Bool := decide (536870912#32 ≤ a) && decide (wslot a < m.words.length)
def MemM.load (m : MemM) (a : BitVec 32) : (BitVec 32 × Int) × MemM :=
 if a % 4#32 ≠ 0#32 then ((0#32, 50), m)
 else if a = 1073741824#32 then (if m.drawn = m.tape.length then ((0#32, 51), m) else ((at0 m.tape m.drawn, 0), { m with drawn := m.drawn + 1 }))
 else if m.at a = true then ((at0 m.words (wslot a), 0), m)
 else if a.toNat / 2 + 1 < m.code.length then ((((at0 m.code (a.toNat / 2)).setWidth 32) ||| (((at0 m.code (a.toNat / 2 + 1)).setWidth 32) <<< 16), 0), m)
 else ((0#32, 50), m)
def MemM.loads (m : MemM) (a : BitVec 32) : (BitVec 32 × Int) × MemM :=
 let r := m.load a
 (r.1, if r.1.2 = 0 then { r.2 with bus := r.1.1 } else r.2)
def MemM.store (m : MemM) (a w : BitVec 32) : Int × MemM :=
 if m.at a = true ∧ a % 4#32 = 0#32 then (0, { m with words := m.words.set (wslot a) w, bus := w }) else (50, m)
def MemM.fetch (m : MemM) (a : BitVec 32) : BitVec 16 × Int :=
 if a % 2#32 = 0#32 ∧ a.toNat / 2 < m.code.length then (at0 m.code (a.toNat / 2), 0) else (0#16, 50)
structure MemM.Ok (m : MemM) : Prop where
 code : m.code.length ≤ 60000
 words : m.words.length ≤ 16000
 tape : m.tape.length ≤ 1000000000
 drawn : m.drawn ≤ m.tape.length
end Go.Abs
end
