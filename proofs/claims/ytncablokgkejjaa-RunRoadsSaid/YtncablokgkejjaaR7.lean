/-
  What runs are told by: equality of outcomes with themselves; that code runs.
-/
import Derived.Test.YtncablokgkejjaaR6
set_option linter.unusedSimpArgs false
set_option linter.unusedVariables false
namespace Go.Abs
open Th
theorem lrows_at (ls : List LeakM) (k : Nat) (l : LeakM) (h : ls[k]? = some l) : (lrows ls)[k]? = some [W32 l.pc, W16 l.code, W32 l.a, W32 l.b, W32 l.r, W32 l.old, W32 l.bus, W32 l.addr, .bool l.memory, .bool l.random] := by
  simp [lrows, h, LeakM.cells]
theorem ran08 : (goL 10 s00 (startM [8193#16, 48640#16] [9#32] [])).1.length = 2 ∧ (goL 10 s00 (startM [8193#16, 48640#16] [9#32] [])).2.2 = 0 ∧ (goL 10 s00 (startM [8193#16, 48640#16] [9#32] [])).2.1.words = [9#32] ∧ (goL 10 s00 (startM [8193#16, 48640#16] [9#32] [])).2.1.drawn = 0 := by decide +kernel
theorem lives08 : law08_lives.spec [] = some (.bool true) := by
  have h := Exec_eq [8193#16, 48640#16] [9#32] [] 10 (by simp) (by simp) (by simp)
  obtain ⟨h1, h2, h3, h4⟩ := ran08
  have e : (min (max (10 : Int) 0) 1048576).toNat = 10 := by decide
  rw [e] at h
  unfold outAV at h
  rw [h1, h2, h3, h4] at h
  generalize goL 10 s00 (startM [8193#16, 48640#16] [9#32] []) = R at *
  simp only [w16s, w32s, List.map_cons, List.map_nil] at h
  simp -implicitDefEqProofs +contextual (disch := omega) [law08_lives.spec, law08_lives, h, h1]
theorem goL_len : ∀ (n : Nat) (s : StM) (m : MemM), (goL n s m).1.length ≤ n
  | 0, _, _ => Nat.le_refl _
  | n + 1, s, m => by
    unfold goL; split
    · simp
    · split
      · simp
      · have := goL_len n (stepM s m).s (stepM s m).m; simp; omega
end Go.Abs
