/-
  That the program's functions are these. Printed by gen.py.
-/
import Derived.Test.YteohnepdbjmghaaZ7
import Derived.Test.YteohnepdbjmghaaZ8
import Derived.Test.YteohnepdbjmghaaZ2
import Derived.Test.YteohnepdbjmghaaZ4
import Derived.Test.YteohnepdbjmghaaZ6
set_option linter.unusedSimpArgs false
set_option linter.unusedVariables false
set_option maxHeartbeats 20000000
set_option maxRecDepth 100000
section
namespace Go.Abs
open Go.Proofs.Try
namespace z_bz
def K : Nat → List Nat
 | 0 => [1, 2, 4, 5]
 | 1 => [1, 2, 4, 5, 8]
 | 2 => [1, 2, 4, 5, 8, 9, 10, 11]
 | 3 => [1, 2, 4, 5, 8, 9, 10, 11, 33]
 | 4 => [4, 5, 6, 7]
 | 5 => [2, 4, 5, 8, 9, 10, 12]
 | 6 => [2, 4, 5, 8, 9, 10, 12, 14]
 | 7 => [2, 4, 5, 9, 10, 14, 16]
 | 8 => [2, 4, 5, 9, 10, 14, 16, 17, 18]
 | 9 => [2, 4, 5, 9, 10, 14, 16, 17, 18, 77]
 | 10 => [2, 4, 5, 9, 10, 14, 16, 17, 18]
 | 11 => [2, 4, 5, 9, 10, 14, 16, 17, 18, 97]
 | 12 => [2, 4, 5, 9, 10, 14, 16, 17, 18]
 | 13 => [2, 4, 5, 9, 10, 14, 16, 17, 18, 109]
 | 14 => [2, 4, 5, 9, 10, 14, 16, 17, 18]
 | 15 => [2, 4, 5, 9, 10, 14, 16, 17, 18, 129]
 | 16 => [2, 4, 5, 9, 10, 14, 16, 17, 18]
 | 17 => [2, 4, 5, 9, 10, 14, 16, 17, 18, 149]
 | 18 => [2, 4, 5, 9, 10, 14, 16, 17, 18]
 | 19 => [2, 4, 5, 9, 10, 14, 16, 17, 18, 157]
 | 20 => [2, 4, 5, 9, 10, 14, 16, 17, 18]
 | 21 => [2, 4, 5, 9, 10, 14, 16, 17, 18]
 | 22 => [2, 4, 5, 9, 10, 14, 16, 17, 18, 173]
 | 23 => [2, 4, 5, 9, 10, 14, 16, 17, 18]
 | 24 => [2, 4, 5, 9, 10, 14, 16, 17, 18, 188]
 | 25 => [2, 4, 5, 9, 10, 14, 16, 17, 18]
 | 26 => [2, 4, 5, 9, 10, 14, 16, 17, 18, 202]
 | 27 => [2, 4, 5, 9, 10, 14, 16, 17]
 | 28 => [2, 4, 5, 9, 10, 14, 16, 17]
 | 29 => [2, 4, 5, 9, 10, 14, 16, 17, 19, 20]
 | 30 => [2, 4, 5, 9, 10, 14, 16, 17, 19, 233]
 | 31 => [4, 5, 9, 10, 14, 16, 17]
 | 32 => [4, 5, 9, 10, 14, 16, 17, 249]
 | 33 => [4, 5, 9, 10, 14, 16, 17]
 | 34 => [4, 5, 9, 10, 14, 16, 17, 263]
 | 35 => [4, 5, 9, 10, 14, 16, 17]
 | 36 => [4, 5, 9, 10, 14, 16, 17, 276]
 | 37 => [4, 5, 9, 10, 14, 16, 17]
 | 38 => [4, 5, 9, 10, 16, 289]
 | 39 => [4, 5, 9, 10, 16]
 | 40 => [4, 5, 6, 7]
 | _ => []
theorem z_ae (s0 s1 : SpecM) (s2 s3 : SpecP) (fr : AFr) (H : Hp) : acode tp (C s0 s1 s2 s3) (draws tp (C s0 s1 s2 s3)) K (co f86) fr H = body s0 s1 s2 s3 fr H := by kernel_rfl
theorem sound : Sound tp 86 (.ref [true, false] spec) := sayT ((((Tab.Sound.none.add z_aw.sound).add z_a1.sound).add z_ba.sound).add z_bl.sound) func86 (by kernel_rfl) (by kernel_rfl) (fun a w => call86 a w) (z_ae z_aw.spec z_a1.spec z_ba.spec z_bl.spec) 2 (by decide +kernel) (g := res) (fun fr H => by kernel_rfl) fun args H r h => by
 unfold spec at h; split at h <;> first | exact ⟨rfl, h⟩ | cases h
end z_bz
end Go.Abs
end
section
namespace Go.Abs
open Go.Proofs.Try
namespace z_be
def K : Nat → List Nat
 | 0 => [0, 1, 2, 3, 8]
 | 1 => [1, 3, 8, 9, 10]
 | 2 => [1, 3, 8, 9, 10, 11]
 | 3 => [1, 3, 8, 9, 10, 11, 30]
 | 5 => [1, 3, 8, 9, 10, 11]
 | 4 => [1, 3, 8, 9, 10, 11]
 | 6 => [3, 8, 9, 10, 44]
 | 7 => [3, 8, 9, 10]
 | 8 => [3, 8, 9, 10, 12]
 | 9 => [3, 8, 9, 10, 12, 13]
 | 10 => [3, 8, 9, 10, 12, 13, 52]
 | 11 => [3, 8, 9, 10, 12, 13, 14, 15, 16, 17]
 | 12 => [3, 8, 9, 10, 12, 13, 14, 15, 16, 17, 62]
 | 13 => [3, 8, 9, 10, 12, 13]
 | 14 => [3, 8, 9, 10, 12, 13, 16]
 | 15 => [3, 8, 9, 10, 12, 13, 76]
 | 16 => [3, 8, 9, 10, 12, 13]
 | 17 => [8, 12]
 | 18 => [8]
 | _ => []
theorem z_ae (s0 s1 : SpecM) (fr : AFr) (H : Hp) : acode tp (C s0 s1) (draws tp (C s0 s1)) K (co f40) fr H = body s0 s1 fr H := by kernel_rfl
theorem sound : Sound tp 40 (.pure false spec) := sayP ((Tab.Sound.none.add z_b0.sound).add z_bz.sound) func40 (by kernel_rfl) (by kernel_rfl) (fun a w => call40 a w) (z_ae z_b0.spec z_bz.spec) 4 (by decide +kernel) (g := res) (fun fr H => by kernel_rfl) (ts := some [[none, none, none, some 1, some 10]]) (by kernel_rfl) fun args r h => by
 unfold spec at h; split at h <;> first | exact ⟨rfl, h⟩ | cases h
end z_be
end Go.Abs
end
section
namespace Go.Abs
open Go.Proofs.Try
namespace z_cr
def K : Nat → List Nat
 | 0 => []
 | 1 => [0]
 | _ => []
theorem z_ae (s0 s1 : SpecP) (fr : AFr) (H : Hp) : acode tp (C s0 s1) (draws tp (C s0 s1)) K (co f24) fr H = body s0 s1 fr H := by kernel_rfl
theorem sound : Sound tp 24 (.pure false spec) := sayP ((Tab.Sound.none.add z_c0.sound).add z_cw.sound) func24 (by kernel_rfl) (by kernel_rfl) (fun a w => call24 a w) (z_ae z_c0.spec z_cw.spec) 0 (by decide +kernel) (g := res) (fun fr H => by kernel_rfl) (ts := some [[none]]) (by kernel_rfl) fun args r h => by
 unfold spec at h; split at h <;> first | exact ⟨rfl, h⟩ | cases h
end z_cr
namespace z_cz
def K : Nat → List Nat
 | 0 => [1]
 | 1 => [2]
 | _ => []
theorem z_ae (fr : AFr) (H : Hp) : acode tp C (draws tp C) K (co f31) fr H = body fr H := by kernel_rfl
theorem sound : Sound tp 31 (.pure false spec) := sayP Tab.Sound.none func31 (by kernel_rfl) (by kernel_rfl) (fun a w => call31 a w) z_ae 1 (by decide +kernel) (g := res) (fun fr H => by kernel_rfl) (ts := some [[none]]) (by kernel_rfl) fun args r h => by
 unfold spec at h; split at h <;> first | exact ⟨rfl, h⟩ | cases h
end z_cz
namespace z_c3
def K : Nat → List Nat
 | 0 => [1]
 | 1 => [1, 5, 6, 7]
 | 2 => [1, 5, 6, 17]
 | 3 => [2, 3, 4]
 | 4 => [6, 8, 9]
 | 5 => [2, 3, 4]
 | _ => []
theorem z_ae (s0 s1 s2 : SpecP) (fr : AFr) (H : Hp) : acode tp (C s0 s1 s2) (draws tp (C s0 s1 s2)) K (co f37) fr H = body s0 s1 s2 fr H := by kernel_rfl
theorem sound : Sound tp 37 (.pure false spec) := sayP (((Tab.Sound.none.add z_bk.sound).add z_dn.sound).add z_cc.sound) func37 (by kernel_rfl) (by kernel_rfl) (fun a w => call37 a w) (z_ae z_bk.spec z_dn.spec z_cc.spec) 1 (by decide +kernel) (g := res) (fun fr H => by kernel_rfl) (ts := some [[some 1], [none], [none]]) (by kernel_rfl) fun args r h => by
 unfold spec at h; split at h <;> first | exact ⟨rfl, h⟩ | cases h
end z_c3
namespace z_co
def K : Nat → List Nat
 | 0 => [0, 1]
 | 1 => [0, 1, 5]
 | 2 => [0, 1, 5, 6]
 | 3 => [0, 1, 5, 6, 11]
 | 5 => [0, 1, 5, 6, 7]
 | 6 => [0, 1, 5, 6, 7, 19]
 | 7 => [0, 1, 5, 6, 7]
 | 8 => [0, 1, 5, 6]
 | 4 => [0, 1, 5, 6]
 | 9 => [4]
 | _ => []
theorem z_ae (fr : AFr) (H : Hp) : acode tp C (draws tp C) K (co f38) fr H = body fr H := by kernel_rfl
theorem sound : Sound tp 38 (.pure false spec) := sayP Tab.Sound.none func38 (by kernel_rfl) (by kernel_rfl) (fun a w => call38 a w) z_ae 2 (by decide +kernel) (g := res) (fun fr H => by kernel_rfl) (ts := some [[some 1]]) (by kernel_rfl) fun args r h => by
 unfold spec at h; split at h <;> first | exact ⟨rfl, h⟩ | cases h
end z_co
namespace law25_EmitRuns
def K : Nat → List Nat
 | 0 => [1, 2, 3]
 | 1 => [1, 2, 3, 24]
 | 2 => [6]
 | 3 => [1, 2, 3, 7, 8, 9]
 | 4 => [1, 2, 3, 7, 8, 33]
 | 5 => [6]
 | 6 => [1, 3, 7, 8, 10, 11]
 | 7 => [1, 3, 7, 8, 10, 11, 12]
 | 8 => [1, 3, 7, 8, 10, 11, 12, 43]
 | 10 => [1, 3, 7, 8, 10, 11, 12, 49]
 | 11 => [1, 3, 7, 8, 10, 11, 12]
 | 9 => [1, 3, 7, 8, 10, 11, 12]
 | 12 => [1, 3, 7, 8, 11, 13]
 | 13 => [3, 7, 8, 11, 13, 14, 15]
 | 14 => [3, 13, 14, 98]
 | 15 => [6]
 | 16 => [3, 13, 14, 16]
 | 17 => [3, 13, 14, 16, 103]
 | 19 => [3, 13, 14, 16, 122]
 | 20 => [6]
 | 18 => [3, 13, 14, 16]
 | 21 => [6]
 | _ => []
theorem z_ae (s0 s1 s2 s3 s4 s5 s6 s7 : SpecP) (fr : AFr) (H : Hp) : acode tp (C s0 s1 s2 s3 s4 s5 s6 s7) (draws tp (C s0 s1 s2 s3 s4 s5 s6 s7)) K (co f8) fr H = body s0 s1 s2 s3 s4 s5 s6 s7 fr H := by kernel_rfl
theorem sound : Sound tp 8 (.pure false spec) := sayP ((((((((Tab.Sound.none.add z_cz.sound).add z_bx.sound).add z_cr.sound).add z_c3.sound).add z_bf.sound).add z_co.sound).add z_be.sound).add z_bd.sound) func8 (by kernel_rfl) (by kernel_rfl) (fun a w => call8 a w) (z_ae z_cz.spec z_bx.spec z_cr.spec z_c3.spec z_bf.spec z_co.spec z_be.spec z_bd.spec) 3 (by decide +kernel) (g := res) (fun fr H => by kernel_rfl) (ts := some [[none]]) (by kernel_rfl) fun args r h => by
 unfold spec at h; split at h <;> first | exact ⟨rfl, h⟩ | cases h
end law25_EmitRuns
end Go.Abs
end
section
section
namespace Go.Abs
theorem z_h3 (b c d : Bool) (h : (!b) = c) : apick (.bool b) (.bool true) (gdv c (.bool d)) = some (.bool (b || d)) := by
 subst h; cases b <;> rfl
theorem z_g0 (b c d : Bool) (h : b = c) : apick (.bool b) (gdv c (.bool d)) (.bool false) = some (.bool (b && d)) := by
 subst h; cases b <;> rfl
theorem z_kh {p : Prop} {x y : ARes} {Q : AEx → AFr → Hp → Prop} (h1 : p → ∃ e f X, x = some (e, f, X) ∧ Q e f X) (h2 : ¬ p → ∃ e f X, y = some (e, f, X) ∧ Q e f X) : ∃ e f X, @acondp p ⟨x⟩ ⟨y⟩ = some (e, f, X) ∧ Q e f X := by
 by_cases h : p
 ·rw [z_rl _ _ _ h]; exact h1 h
 ·rw [z_rm _ _ _ h]; exact h2 h
theorem z_cf {f : AFr → Hp → ARes} (n : Nat) (R : Nat → AFr → Hp → Prop) (Q : AEx → AFr → Hp → Prop)
  (h : ∀ k, k < n → ∀ fr H, R k fr H → ∃ e fr' H', f fr H = some (e, fr', H') ∧ ((e = .normal ∧ R (k + 1) fr' H') ∨ (e ≠ .normal ∧ Q e fr' H')))
  (hx : ∀ fr H, R n fr H → ∃ e fr' H', f fr H = some (e, fr', H') ∧ e ≠ .normal ∧ Q e fr' H') {fr : AFr} {H : Hp} (h0 : R 0 fr H) :
  ∃ e fr' H', aloop f fr H = some (e, fr', H') ∧ Q e fr' H' := by
 refine z_rh (fun d fr H => d ≤ n ∧ R (n - d) fr H) Q (fun d fr H hR => ?_) n fr H ⟨Nat.le_refl _, by rw [Nat.sub_self]; exact h0⟩
 by_cases hd : d = 0
 ·subst hd
  obtain ⟨e, fr', H', h1, h2, h3⟩ := hx fr H hR.2
  exact ⟨e, fr', H', h1, .inr ⟨h2, h3⟩⟩
 ·obtain ⟨e, fr', H', h1, h2⟩ := h (n - d) (by omega) fr H hR.2
  refine ⟨e, fr', H', h1, ?_⟩
  rcases h2 with ⟨h3, h4⟩ | h3
  ·refine .inl ⟨h3, d - 1, by omega, by omega, ?_⟩
   have e : n - (d - 1) = n - d + 1 := by omega
   rw [e]; exact h4
  ·exact .inr h3
theorem z_ee {r r' : ARes} {Q : AEx → AFr → Hp → Prop} (hr : r' = r) (h : ∃ e f X, r' = some (e, f, X) ∧ Q e f X) : ∃ e f X, r = some (e, f, X) ∧ Q e f X := by
 subst hr; exact h
theorem z_nl {r s : ARes} {Q : AEx → AFr → Hp → Prop} (h : r = s) (h2 : ∃ e f X, s = some (e, f, X) ∧ Q e f X) : ∃ e f X, r = some (e, f, X) ∧ Q e f X := by
 subst h; exact h2
def Rl (X : Hp) (av : List Nat) (ty : TypeId) (sz : Nat) (v : AV) (rows : List (List AV)) : Prop := (rows = [] ∧ v = .nils) ∨ ∃ ob, ob ∉ av ∧ v = .sl ob sz 0 rows.length ∧ X.get ob = some ⟨ty, sz, true, rows⟩
theorem Rl.lift {X Y : Hp} {av : List Nat} {ty : TypeId} {sz : Nat} {v : AV} {rows : List (List AV)} (h : Rl X av ty sz v rows) (hg : ∀ ob, ob ∉ av → X.get ob = some ⟨ty, sz, true, rows⟩ → Y.get ob = some ⟨ty, sz, true, rows⟩) : Rl Y av ty sz v rows := by
 rcases h with h | ⟨ob, h1, h2, h3⟩
 ·exact .inl h
 ·exact .inr ⟨ob, h1, h2, hg ob h1 h3⟩
end Go.Abs
end
section
end
end
section
namespace Go.Abs
def numK : Nat → Nat → List UInt8
 | 0, _ => []
 | k + 1, n => if n < 10 then [48 + UInt8.ofNat n] else numK k (n / 10) ++ [48 + UInt8.ofNat (n % 10)]
def num (n : Nat) : List UInt8 := numK 19 n
theorem z_lu : ∀ k n, (numK k n).length ≤ k
 | 0, _ => by simp [numK]
 | k + 1, n => by
  have := z_lu k (n / 10)
  unfold numK
  split
  ·simp
  ·simp; omega
theorem z_ls (n : Nat) : (num n).length ≤ 19 := z_lu 19 n
theorem z_lt (k n : Nat) (h : n < 10) : numK (k + 1) n = [48 + UInt8.ofNat n] := by unfold numK; rw [if_pos h]
theorem z_tr (n : Nat) (h : n < 10) : (([48, 49, 50, 51, 52, 53, 54, 55, 56, 57] : List UInt8).take (n + 1)).drop n = [48 + UInt8.ofNat n] := by
 have : n = 0 ∨ n = 1 ∨ n = 2 ∨ n = 3 ∨ n = 4 ∨ n = 5 ∨ n = 6 ∨ n = 7 ∨ n = 8 ∨ n = 9 := by omega
 rcases this with rfl | rfl | rfl | rfl | rfl | rfl | rfl | rfl | rfl | rfl <;> rfl
theorem z_un (s : SpecP) (n : Nat) (h : n < 10) : z_ci.step s [.int .i64 n] = some (.str (bs [48 + UInt8.ofNat n])) := by
 have h1 : (n : Int) < 10 := by omega
 have h2 : ¬ (n : Int) < 0 := by omega
 have hc := z_tr n h
 have h3 : ((n : Int) + 1).toNat = n + 1 := by omega
 rw [List.take_succ_cons] at hc
 simp -implicitDefEqProofs +contextual (disch := omega) [z_ci.step, h1, h2, hc, h3]
theorem z_mg : ∀ (k j n : Nat), k ≤ 18 → n < 10 ^ (k + 1) → n < 1000000000000000000 → z_ci.fuel (k + 1 + j) [.int .i64 n] = some (.str (bs (numK (k + 1) n)))
 | 0, j, n, _, h, hb => by
  have h' : n < 10 := by simpa using h
  rw [show 0 + 1 + j = j + 1 from by omega, z_lt 0 n h']
  exact z_un _ n h'
 | k + 1, j, n, hk18, h, hb => by
  by_cases h' : n < 10
  ·rw [show k + 1 + 1 + j = (k + 1 + j) + 1 from by omega, z_lt (k + 1) n h']
   exact z_un _ n h'
  ·have e1 := z_mg k j (n / 10) (by omega) (by rw [Nat.pow_succ] at h; omega) (by omega)
   have e2 := z_mg 0 (k + j) (n % 10) (by omega) (by omega) (by omega)
   rw [show 0 + 1 + (k + j) = k + 1 + j from by omega, z_lt 0 _ (by omega)] at e2
   have hl := z_lu (k + 1) (n / 10)
   have hk : (numK (k + 1) (n / 10)).length ≤ 19 := by omega
   rw [show k + 1 + 1 + j = (k + 1 + j) + 1 from by omega]
   show z_ci.step (z_ci.fuel (k + 1 + j)) [.int .i64 n] = _
   have h1 : ¬ (n : Int) < 10 := by omega
   have h2 : ¬ (n : Int) < 0 := by omega
   have hd : ((n / 10 : Nat) : Int) = (n : Int) / 10 := by omega
   have hm : ((n % 10 : Nat) : Int) = (n : Int) % 10 := by omega
   rw [hd] at e1
   rw [hm] at e2
   rw [show numK (k + 1 + 1) n = numK (k + 1) (n / 10) ++ [48 + UInt8.ofNat (n % 10)] from by rw [numK, if_neg h']]
   generalize numK (k + 1) (n / 10) = l at *
   generalize z_ci.fuel (k + 1 + j) = s at *
   simp -implicitDefEqProofs +contextual (disch := omega) [z_ci.step, h1, h2, e1, e2]
theorem z_xl (n : Nat) (h : n < 1000000000000000000) : z_ci.spec [.int .i64 n] = some (.str (bs (num n))) :=
 z_mg 18 45 n (by omega) (by omega) h
end Go.Abs
end
