/-
  Steps' texts: the document's parts; the law EmitSlots.
-/
import Derived.Test.YteohnepdbjmghaaE10
import Derived.Test.YteohnepdbjmghaaErF
import Derived.Test.YteohnepdbjmghaaL25F
set_option linter.unusedSimpArgs false
set_option linter.unusedVariables false
namespace Go.Abs
open Th
def strRows (l : List (List UInt8)) : List (List AV) := l.map fun s => [.str (bs s)]
@[simp] theorem strRows_length (l : List (List UInt8)) : (strRows l).length = l.length := by simp [strRows]
theorem strRows_all (l : List (List UInt8)) : (strRows l).take l.length = strRows l := List.take_of_length_le (by simp)
def linesI (l : List InsM) : List (List UInt8) := l.map showI
theorem linesI_append (a b : List InsM) : linesI (a ++ b) = linesI a ++ linesI b := by simp [linesI]
@[simp] theorem linesI_length (l : List InsM) : (linesI l).length = l.length := by simp [linesI]
theorem num_small : num 0 = [48] ∧ num 1 = [49] ∧ num 2 = [50] ∧ num 5 = [53] ∧ num 6 = [54] ∧ num 7 = [55] ∧ num 8 = [56] ∧ num 24 = [50, 52] ∧ num 32 = [51, 50] ∧ num 64 = [54, 52] := by decide +kernel
theorem atI_lines (n : Nat) : linesI (atI n) = if 4 * n < 256 then [[109, 111, 118, 115, 32, 114, 54, 44, 32, 35] ++ num (4 * n)] else
    [[109, 111, 118, 115, 32, 114, 54, 44, 32, 35] ++ num (4 * n / 256), [108, 115, 108, 115, 32, 114, 54, 44, 32, 114, 54, 44, 32, 35, 56], [97, 100, 100, 115, 32, 114, 54, 44, 32, 35] ++ num (4 * n % 256)] := by
  obtain ⟨n0, n1, n2, n5, n6, n7, n8, n24, n32, n64⟩ := num_small
  unfold atI
  split
  · simp only [linesI, List.map_cons, List.map_nil, showI, mvI, regT, immT, csT, if_true, Int.toNat_natCast]
    simp [n6]
  · simp only [linesI, List.map_cons, List.map_nil, showI, mvI, lfI, adI, regT, immT, csT, if_true, Int.toNat_natCast]
    simp [n6, n8]
theorem rSlot_eq (n : Nat) (h : n ≤ 16000) : ref25_Slot.spec [.int .i64 n] = some (.rsl 1 (strRows (linesI (atI n)))) := by
  rw [atI_lines]
  have h4 : 4 * (n : Int) = ((4 * n : Nat) : Int) := by omega
  have hn16 : (n : Int) ≤ 16000 := by omega
  generalize hm : 4 * n = m at *
  have hm2 : m ≤ 64000 := by omega
  by_cases hs : m < 256
  · rw [if_pos hs]
    have hs' : (m : Int) < 256 := by omega
    have e1 := Num_eq m (by omega)
    have hl := num_len m
    generalize num m = l at *
    simp -implicitDefEqProofs +contextual (disch := omega) [ref25_Slot.spec, ref25_Slot, h4, hs', e1, strRows]
  · rw [if_neg hs]
    have hs' : ¬ (m : Int) < 256 := by omega
    have e1 := Num_eq (m / 256) (by omega)
    have e2 := Num_eq (m % 256) (by omega)
    have hd : ((m / 256 : Nat) : Int) = (m : Int) / 256 := by omega
    have hr : ((m % 256 : Nat) : Int) = (m : Int) % 256 := by omega
    rw [hd] at e1
    rw [hr] at e2
    have hl := num_len (m / 256)
    have hl2 := num_len (m % 256)
    generalize num (m / 256) = l at *
    generalize num (m % 256) = l2 at *
    simp -implicitDefEqProofs +contextual (disch := omega) [ref25_Slot.spec, ref25_Slot, h4, hs', e1, e2, strRows]
theorem rSlot_no (n : Int) (h : ¬ (0 ≤ n ∧ n ≤ 16000)) (hI : I64 n) : ref25_Slot.spec [.int .i64 n] = some (.rsl 1 []) := by
  by_cases h0 : n < 0
  · simp -implicitDefEqProofs +contextual (disch := omega) [ref25_Slot.spec, ref25_Slot, h0]
  · have h1 : 16000 < n := by omega
    simp -implicitDefEqProofs +contextual (disch := omega) [ref25_Slot.spec, ref25_Slot, h0, h1]
theorem beginI_lines : linesI beginI = [[109, 111, 118, 115, 32, 114, 55, 44, 32, 35, 51, 50], [108, 115, 108, 115, 32, 114, 55, 44, 32, 114, 55, 44, 32, 35, 50, 52], [109, 111, 118, 115, 32, 114, 53, 44, 32, 35, 54, 52], [108, 115, 108, 115, 32, 114, 53, 44, 32, 114, 53, 44, 32, 35, 50, 52]] := by decide +kernel
theorem rBegin_eq : ref25_Begin.spec [] = some (.rsl 1 (strRows (linesI beginI))) := by
  rw [beginI_lines]
  simp -implicitDefEqProofs +contextual (disch := omega) [ref25_Begin.spec, ref25_Begin, strRows]
end Go.Abs
