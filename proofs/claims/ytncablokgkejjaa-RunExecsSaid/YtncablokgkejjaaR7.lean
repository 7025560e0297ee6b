/-
  What runs are told by: equality of outcomes with themselves; that code runs.
-/
import Derived.Test.YtncablokgkejjaaR6
set_option linter.unusedSimpArgs false
set_option linter.unusedVariables false
namespace Go.Abs
open Th
theorem lrows_at (ls : List LeakM) (k : Nat) (l : LeakM) (h : ls[k]? = some l) : (lrows ls)[k]? = some [W32 l.pc, W16 l.code, W32 l.a, W32 l.b, W32 l.r, W32 l.old, W32 l.bus, W32 l.addr, .bool l.memory, .bool l.random] := by
  simp [lrows, h, LeakM.cells]
theorem same_refl (st dr : Nat) (e : Int) (ws : List (BitVec 32)) (ls : List LeakM) (hw : ws.length ≤ 16000) (hl : ls.length ≤ 1048576) :
    ref08_Same.spec [.agg [.int .i64 st, .int .i64 dr, .int .i64 e, .rsl 1 (w32s ws), .rsl 10 (lrows ls)], .agg [.int .i64 st, .int .i64 dr, .int .i64 e, .rsl 1 (w32s ws), .rsl 10 (lrows ls)]] = some (.bool true) := by
  have hs := same_eq ws ws (by omega)
  have H0 : ∀ k, k < ls.length → ref08_Same.l0 ref05_Same.spec (AFr.al [(2, .ptr 0 5 0 0), (3, .ptr 1 5 0 0), (5, .int .i64 (k : Nat))]) ((AHeap.empty.push ⟨T.ty_api_Outcome, 5, true, [[.int .i64 st, .int .i64 dr, .int .i64 e, .rsl 1 (w32s ws), .rsl 10 (lrows ls)]]⟩).push ⟨T.ty_api_Outcome, 5, true, [[.int .i64 st, .int .i64 dr, .int .i64 e, .rsl 1 (w32s ws), .rsl 10 (lrows ls)]]⟩) =
      some (.normal, AFr.al [(2, .ptr 0 5 0 0), (3, .ptr 1 5 0 0), (5, .int .i64 (k + 1 : Nat))], ((AHeap.empty.push ⟨T.ty_api_Outcome, 5, true, [[.int .i64 st, .int .i64 dr, .int .i64 e, .rsl 1 (w32s ws), .rsl 10 (lrows ls)]]⟩).push ⟨T.ty_api_Outcome, 5, true, [[.int .i64 st, .int .i64 dr, .int .i64 e, .rsl 1 (w32s ws), .rsl 10 (lrows ls)]]⟩)) := fun k hk => by
    have h1 : (k : Int) < (ls.length : Int) := by omega
    have h2 := lrows_at ls k ls[k] (by simp [hk])
    simp -implicitDefEqProofs +contextual (disch := omega) [ref08_Same.l0, h1, h2]
  have hgo := aloop_go (f := ref08_Same.l0 ref05_Same.spec) (fun k => AFr.al [(2, .ptr 0 5 0 0), (3, .ptr 1 5 0 0), (5, .int .i64 (k : Nat))]) (fun _ => ((AHeap.empty.push ⟨T.ty_api_Outcome, 5, true, [[.int .i64 st, .int .i64 dr, .int .i64 e, .rsl 1 (w32s ws), .rsl 10 (lrows ls)]]⟩).push ⟨T.ty_api_Outcome, 5, true, [[.int .i64 st, .int .i64 dr, .int .i64 e, .rsl 1 (w32s ws), .rsl 10 (lrows ls)]]⟩)) ls.length H0 0 (by omega)
  have hx : aloop (ref08_Same.l0 ref05_Same.spec) (AFr.al [(2, .ptr 0 5 0 0), (3, .ptr 1 5 0 0), (5, .int .i64 (ls.length : Nat))]) ((AHeap.empty.push ⟨T.ty_api_Outcome, 5, true, [[.int .i64 st, .int .i64 dr, .int .i64 e, .rsl 1 (w32s ws), .rsl 10 (lrows ls)]]⟩).push ⟨T.ty_api_Outcome, 5, true, [[.int .i64 st, .int .i64 dr, .int .i64 e, .rsl 1 (w32s ws), .rsl 10 (lrows ls)]]⟩) =
      some (.exit 0, AFr.al [(2, .ptr 0 5 0 0), (3, .ptr 1 5 0 0), (5, .int .i64 (ls.length : Nat)), (46, .bool false)], ((AHeap.empty.push ⟨T.ty_api_Outcome, 5, true, [[.int .i64 st, .int .i64 dr, .int .i64 e, .rsl 1 (w32s ws), .rsl 10 (lrows ls)]]⟩).push ⟨T.ty_api_Outcome, 5, true, [[.int .i64 st, .int .i64 dr, .int .i64 e, .rsl 1 (w32s ws), .rsl 10 (lrows ls)]]⟩)) := aloop_exit (by simp) (by
    simp -implicitDefEqProofs +contextual (disch := omega) [ref08_Same.l0])
  rw [hx] at hgo
  rw [show ((0 : Nat) : Int) = 0 from rfl] at hgo
  simp -implicitDefEqProofs +contextual (disch := omega) [ref08_Same.spec, ref08_Same, hs, hgo]
theorem ran08 : (goL 10 s00 (startM [8193#16, 48640#16] [9#32] [])).1.length = 2 ∧ (goL 10 s00 (startM [8193#16, 48640#16] [9#32] [])).2.2 = 0 ∧ (goL 10 s00 (startM [8193#16, 48640#16] [9#32] [])).2.1.words = [9#32] ∧ (goL 10 s00 (startM [8193#16, 48640#16] [9#32] [])).2.1.drawn = 0 := by decide +kernel
theorem lives08 : law08_lives.spec [] = some (.bool true) := by
  have h := Exec_eq [8193#16, 48640#16] [9#32] [] 10 (by simp) (by simp) (by simp)
  obtain ⟨h1, h2, h3, h4⟩ := ran08
  have e : (min (max (10 : Int) 0) 1048576).toNat = 10 := by decide
  rw [e] at h
  unfold outAV at h
  rw [h1, h2, h3, h4] at h
  generalize goL 10 s00 (startM [8193#16, 48640#16] [9#32] []) = R at *
  simp only [w16s, w32s, List.map_cons, List.map_nil] at h
  simp -implicitDefEqProofs +contextual (disch := omega) [law08_lives.spec, law08_lives, h, h1]
theorem goL_len : ∀ (n : Nat) (s : StM) (m : MemM), (goL n s m).1.length ≤ n
  | 0, _, _ => Nat.le_refl _
  | n + 1, s, m => by
    unfold goL; split
    · simp
    · split
      · simp
      · have := goL_len n (stepM s m).s (stepM s m).m; simp; omega
end Go.Abs
