/-
  What code comes to: a round of the program's run.
-/
import Derived.Test.YtncablokgkejjaaK2
import Derived.Test.YtncablokgkejjaaC10
import Derived.Test.YtncablokgkejjaaRuF
set_option linter.unusedSimpArgs false
set_option linter.unusedVariables false
namespace Go.Abs
open Th
def lrows (l : List LeakM) : List (List AV) := l.map LeakM.cells
@[simp] theorem lrows_length (l : List LeakM) : (lrows l).length = l.length := by simp [lrows]
@[simp] theorem lrows_nil : lrows [] = [] := rfl
def lAV (c : Nat) (l : List LeakM) : AV := if l = [] then .nils else .sl c 10 0 l.length
def outB (k : Nat) (d : Nat) (e : Int) (w : AV) (l : AV) (fl : Bool) : Blk := ⟨T.ty_api_Outcome, 5, fl, [[.int .i64 k, .int .i64 d, .int .i64 e, w, l]]⟩
def goL : Nat → StM → MemM → List LeakM × MemM × Int
  | 0, _, m => ([], m, 80)
  | n + 1, s, m => if (stepM s m).e ≠ 0 then ([], (stepM s m).m, (stepM s m).e) else if (stepM s m).stop = true then ([leakM s m], (stepM s m).m, 0) else
      (leakM s m :: (goL n (stepM s m).s (stepM s m).m).1, (goL n (stepM s m).s (stepM s m).m).2)
noncomputable abbrev goesL := run_goes.l1 mem_New.spec mem_Mem_Set.spec leak_Step.spec core_Step.spec mem_Mem_Drawn.spec mem_Mem_Words.spec
abbrev goesF (lim : Nat) (b : Bool) (x : List (Nat × AV)) : AFr := AFr.al ((3, .int .i64 lim) :: (4, .bool b) :: (10, .ptr 0 5 0 0) :: (11, .ptr 2 5 0 0) :: (14, .ptr 3 5 0 0) :: (15, .ptr 4 13 0 0) :: x)
structure GI (B : AHeap) (k : Nat) (e : Int) (ls : List LeakM) : Prop where
  wf : B.WF
  nx : 5 ≤ B.next
  fst : B.get 0 = some (outB 0 0 0 .nils .nils true)
  out : ∃ c fl, B.get 3 = some (outB k 0 e .nils (lAV c ls) fl) ∧ (ls ≠ [] → 5 ≤ c ∧ B.get c = some ⟨T.ty_api_Leak, 10, true, lrows ls⟩)
set_option maxHeartbeats 8000000 in
theorem goes_leak (B : AHeap) (s : StM) (m : MemM) (hm : m.Ok) (lim : Nat) (x : List (Nat × AV)) (hl : lim ≤ 1048576) (ls : List LeakM) (hk : ls.length < lim) (G : GI B ls.length 80 ls) (hs : B.get 4 = some (stBlk s)) :
    ((stepM s m).e ≠ 0 ∧ ∃ B', goesL (goesF lim true x) (B.mem 2 1 m) = some (.exit 2, AFr.al [(10, .ptr 0 5 0 0), (11, .ptr 2 5 0 0), (14, .ptr 3 5 0 0)], B'.mem 2 1 (stepM s m).m) ∧ GI B' ls.length (stepM s m).e ls) ∨
    ((stepM s m).e = 0 ∧ (stepM s m).stop = true ∧ ∃ B', goesL (goesF lim true x) (B.mem 2 1 m) = some (.exit 2, AFr.al [(10, .ptr 0 5 0 0), (11, .ptr 2 5 0 0), (14, .ptr 3 5 0 0)], B'.mem 2 1 (stepM s m).m) ∧ GI B' (ls.length + 1) 0 (ls ++ [leakM s m])) ∨
    ((stepM s m).e = 0 ∧ (stepM s m).stop = false ∧ ∃ B', goesL (goesF lim true x) (B.mem 2 1 m) = some (.normal, goesF lim true [(75, .bool false)], B'.mem 2 1 (stepM s m).m) ∧ GI B' (ls.length + 1) 80 (ls ++ [leakM s m]) ∧ B'.get 4 = some (stBlk (stepM s m).s)) := by
  obtain ⟨wf, nx, fst, c, fl, out, hc⟩ := G
  have hS := fun (B' : AHeap) (h1 : B'.WF) (h2 : 2 < B'.next) (h3 : 1 < B'.next) => LStep_eq B' 2 1 m h1 h2 h3 (by omega) hm s
  have hc5 : ls ≠ [] → c < B.next := fun h => wf _ _ (hc h).2
  unfold LeakAV at hS
  generalize hlk : leakM s m = lk at *
  have hlc : lk.cells = [W32 lk.pc, W16 lk.code, W32 lk.a, W32 lk.b, W32 lk.r, W32 lk.old, W32 lk.bus, W32 lk.addr, .bool lk.memory, .bool lk.random] := rfl
  rw [hlc] at hS
  generalize stepM s m = r at *
  obtain ⟨rs, rm, rstop, re⟩ := r
  simp only [stBlk, outB] at hs out fst ⊢
  dsimp only at *
  have hk' : (ls.length : Int) < (lim : Int) := by omega
  by_cases hn : ls = []
  · subst hn
    simp only [lAV, if_true, List.length_nil] at out ⊢
    by_cases he : re = 0
    · subst he
      cases rstop with
      | true =>
        refine .inr (.inl ⟨rfl, rfl, ?_⟩)
        refine ⟨?_, ?_, ?_⟩
        rotate_left
        · simp -implicitDefEqProofs +contextual (disch := try first | omega | assumption | (simp only [AHeap.next_set, AHeap.next_push]; omega) | ((repeat' (first | assumption | with_reducible apply AHeap.WF.push | with_reducible apply AHeap.WF.set)) <;> first | omega | (simp only [AHeap.next_set, AHeap.next_push]; omega)) | (intro c hc; simp (disch := omega); done)) [goesL, goesF, run_goes.l1, hs, out, hS, memPush, memSet, memGet, hk']
          rfl
        · refine ⟨?_, ?_, ?_, ?_⟩
          · (repeat' (first | assumption | with_reducible apply AHeap.WF.push | with_reducible apply AHeap.WF.set)) <;> (simp <;> omega)
          · simp; omega
          · simp (disch := omega) [outB, fst]
          · refine ⟨B.next + 2, _, by simp (disch := omega) [outB, lAV]; rfl, fun _ => ⟨by omega, by simp (disch := omega) [lrows, hlc]⟩⟩
      | false =>
        refine .inr (.inr ⟨rfl, rfl, ?_⟩)
        refine ⟨?_, ?_, ?_, ?_⟩
        rotate_left
        · simp -implicitDefEqProofs +contextual (disch := try first | omega | assumption | (simp only [AHeap.next_set, AHeap.next_push]; omega) | ((repeat' (first | assumption | with_reducible apply AHeap.WF.push | with_reducible apply AHeap.WF.set)) <;> first | omega | (simp only [AHeap.next_set, AHeap.next_push]; omega)) | (intro c hc; simp (disch := omega); done)) [goesL, goesF, run_goes.l1, hs, out, hS, memPush, memSet, memGet, hk']
          rfl
        · refine ⟨?_, ?_, ?_, ?_⟩
          · (repeat' (first | assumption | with_reducible apply AHeap.WF.push | with_reducible apply AHeap.WF.set)) <;> (simp <;> omega)
          · simp; omega
          · simp (disch := omega) [outB, fst]
          · refine ⟨B.next + 2, _, by simp (disch := omega) [outB, lAV]; rfl, fun _ => ⟨by omega, by simp (disch := omega) [lrows, hlc]⟩⟩
        · simp (disch := omega) [stBlk]
    · refine .inl ⟨he, ?_⟩
      refine ⟨?_, ?_, ?_⟩
      rotate_left
      · simp -implicitDefEqProofs +contextual (disch := try first | omega | assumption | (simp only [AHeap.next_set, AHeap.next_push]; omega) | ((repeat' (first | assumption | with_reducible apply AHeap.WF.push | with_reducible apply AHeap.WF.set)) <;> first | omega | (simp only [AHeap.next_set, AHeap.next_push]; omega)) | (intro c hc; simp (disch := omega); done)) [goesL, goesF, run_goes.l1, hs, out, hS, memPush, memSet, memGet, hk', he]
        rfl
      · refine ⟨?_, ?_, ?_, ?_⟩
        · (repeat' (first | assumption | with_reducible apply AHeap.WF.push | with_reducible apply AHeap.WF.set)) <;> (simp <;> omega)
        · simp; omega
        · simp (disch := omega) [outB, fst]
        · exact ⟨c, _, by simp (disch := omega) [outB, lAV]; rfl, fun h => (h rfl).elim⟩
  · obtain ⟨hc6, hcg⟩ := hc hn
    have hc7 := hc5 hn
    simp only [lAV, hn, if_false] at out ⊢
    by_cases he : re = 0
    · subst he
      cases rstop with
      | true =>
        refine .inr (.inl ⟨rfl, rfl, ?_⟩)
        refine ⟨?_, ?_, ?_⟩
        rotate_left
        · simp -implicitDefEqProofs +contextual (disch := try first | omega | assumption | (simp only [AHeap.next_set, AHeap.next_push]; omega) | ((repeat' (first | assumption | with_reducible apply AHeap.WF.push | with_reducible apply AHeap.WF.set)) <;> first | omega | (simp only [AHeap.next_set, AHeap.next_push]; omega)) | (intro c hc; simp (disch := omega); done)) [goesL, goesF, run_goes.l1, hs, out, hS, memPush, memSet, memGet, hk', hcg]
          rfl
        · refine ⟨?_, ?_, ?_, ?_⟩
          · (repeat' (first | assumption | with_reducible apply AHeap.WF.push | with_reducible apply AHeap.WF.set)) <;> (simp <;> omega)
          · simp; omega
          · simp (disch := omega) [outB, fst]
          · refine ⟨B.next + 2, _, by simp (disch := omega) [outB, lAV]; rfl, fun _ => ⟨by omega, by simp (disch := omega) [lrows, hlc]⟩⟩
      | false =>
        refine .inr (.inr ⟨rfl, rfl, ?_⟩)
        refine ⟨?_, ?_, ?_, ?_⟩
        rotate_left
        · simp -implicitDefEqProofs +contextual (disch := try first | omega | assumption | (simp only [AHeap.next_set, AHeap.next_push]; omega) | ((repeat' (first | assumption | with_reducible apply AHeap.WF.push | with_reducible apply AHeap.WF.set)) <;> first | omega | (simp only [AHeap.next_set, AHeap.next_push]; omega)) | (intro c hc; simp (disch := omega); done)) [goesL, goesF, run_goes.l1, hs, out, hS, memPush, memSet, memGet, hk', hcg]
          rfl
        · refine ⟨?_, ?_, ?_, ?_⟩
          · (repeat' (first | assumption | with_reducible apply AHeap.WF.push | with_reducible apply AHeap.WF.set)) <;> (simp <;> omega)
          · simp; omega
          · simp (disch := omega) [outB, fst]
          · refine ⟨B.next + 2, _, by simp (disch := omega) [outB, lAV]; rfl, fun _ => ⟨by omega, by simp (disch := omega) [lrows, hlc]⟩⟩
        · simp (disch := omega) [stBlk]
    · refine .inl ⟨he, ?_⟩
      refine ⟨?_, ?_, ?_⟩
      rotate_left
      · simp -implicitDefEqProofs +contextual (disch := try first | omega | assumption | (simp only [AHeap.next_set, AHeap.next_push]; omega) | ((repeat' (first | assumption | with_reducible apply AHeap.WF.push | with_reducible apply AHeap.WF.set)) <;> first | omega | (simp only [AHeap.next_set, AHeap.next_push]; omega)) | (intro c hc; simp (disch := omega); done)) [goesL, goesF, run_goes.l1, hs, out, hS, memPush, memSet, memGet, hk', he, hcg]
        rfl
      · refine ⟨?_, ?_, ?_, ?_⟩
        · (repeat' (first | assumption | with_reducible apply AHeap.WF.push | with_reducible apply AHeap.WF.set)) <;> (simp <;> omega)
        · simp; omega
        · simp (disch := omega) [outB, fst]
        · exact ⟨c, _, by simp (disch := omega) [outB, lAV, hn]; rfl, fun _ => ⟨hc6, by simp (disch := omega) [hcg]⟩⟩
end Go.Abs
