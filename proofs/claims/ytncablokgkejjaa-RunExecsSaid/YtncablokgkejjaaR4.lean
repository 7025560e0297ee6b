/-
  What code comes to: a round of the document's run. Printed by genr4.py.
-/
import Derived.Test.YtncablokgkejjaaR3
import Derived.Test.YtncablokgkejjaaK5
import Derived.Test.YtncablokgkejjaaRrF
set_option linter.unusedSimpArgs false
set_option linter.unusedVariables false
namespace Go.Abs
open Th
theorem RFix.keep {H H' : AHeap} {b cb wb tb : Nat} {m : MemM} (h : RFix H b cb wb tb m) (hn : H.next ≤ H'.next) (hc : H'.get cb = H.get cb) (ht : H'.get tb = H.get tb) : RFix H' b cb wb tb m :=
  ⟨fun q => by rw [hc]; exact h.code q, by rw [ht]; exact h.tape, Nat.lt_of_lt_of_le h.hb hn, Nat.lt_of_lt_of_le h.hwb hn, h.bw, h.bc, h.bt, h.wc, h.wt⟩
noncomputable abbrev exeL := ref08_Exec.l1 ref05_New.spec ref07_Step.spec
abbrev exeF (lim : Nat) (b so oo : Nat) (on : Bool) (x : List (Nat × AV)) : AFr := AFr.al ((3, .int .i64 lim) :: (8, .ptr 0 5 0 0) :: (9, .ptr b 5 0 0) :: (10, .ptr so 13 0 0) :: (12, .ptr oo 5 0 0) :: (13, .bool on) :: x)
structure Far (b cb wb tb so oo : Nat) : Prop where
  s0 : so ≠ 0
  s1 : so ≠ b
  s2 : so ≠ cb
  s3 : so ≠ wb
  s4 : so ≠ tb
  s5 : so ≠ oo
  o0 : oo ≠ 0
  o1 : oo ≠ b
  o2 : oo ≠ cb
  o3 : oo ≠ wb
  o4 : oo ≠ tb
  z1 : b ≠ 0
  z2 : cb ≠ 0
  z3 : wb ≠ 0
  z4 : tb ≠ 0
structure RI (B : AHeap) (b cb wb tb so oo : Nat) (m : MemM) (k : Nat) (e : Int) (ls : List LeakM) : Prop where
  wf : B.WF
  fix : RFix B b cb wb tb m
  lc : cb < B.next
  ns : so < B.next
  no : oo < B.next
  fst : B.get 0 = some (outB 0 0 0 .nils .nils true)
  out : ∃ c fl, B.get oo = some (outB k 0 e .nils (lAV c ls) fl) ∧ (ls ≠ [] → c ≠ 0 ∧ c ≠ b ∧ c ≠ cb ∧ c ≠ wb ∧ c ≠ tb ∧ c ≠ so ∧ c ≠ oo ∧ B.get c = some ⟨T.ty_api_Leak, 10, true, lrows ls⟩)
set_option maxHeartbeats 8000000 in
theorem exe_leak (B : AHeap) (b cb wb tb so oo : Nat) (F : Far b cb wb tb so oo) (s : StM) (m : MemM) (hm : m.Ok) (lim : Nat) (x : List (Nat × AV)) (hl : lim ≤ 1048576) (ls : List LeakM) (hk : ls.length < lim) (G : RI B b cb wb tb so oo m ls.length 80 ls) (hs : B.get so = some (stBlk s)) :
    ((stepM s m).e ≠ 0 ∧ ∃ B', exeL (exeF lim b so oo true x) (B.rmem b cb wb tb m) = some (.normal, exeF lim b so oo false [], B'.rmem b cb wb tb (stepM s m).m) ∧ RI B' b cb wb tb so oo (stepM s m).m ls.length (stepM s m).e ls) ∨
    ((stepM s m).e = 0 ∧ (stepM s m).stop = true ∧ ∃ B', exeL (exeF lim b so oo true x) (B.rmem b cb wb tb m) = some (.normal, exeF lim b so oo false [], B'.rmem b cb wb tb (stepM s m).m) ∧ RI B' b cb wb tb so oo (stepM s m).m (ls.length + 1) 0 (ls ++ [leakM s m])) ∨
    ((stepM s m).e = 0 ∧ (stepM s m).stop = false ∧ ∃ B', exeL (exeF lim b so oo true x) (B.rmem b cb wb tb m) = some (.normal, exeF lim b so oo true [(76, .bool false)], B'.rmem b cb wb tb (stepM s m).m) ∧ RI B' b cb wb tb so oo (stepM s m).m (ls.length + 1) 80 (ls ++ [leakM s m]) ∧ B'.get so = some (stBlk (stepM s m).s)) := by
  obtain ⟨wf, fix, lc, ns, no, fst, c, fl, out, hc⟩ := G
  obtain ⟨s0, s1, s2, s3, s4, s5, o0, o1, o2, o3, o4, z1, z2, z3, z4⟩ := F
  have hS := rLStep_eq B b cb wb tb m ⟨wf, fix, hm⟩ s
  have hb := fix.hb; have hwb := fix.hwb; have htb := wf _ _ fix.tape
  have hc5 : ls ≠ [] → c < B.next := fun h => wf _ _ (hc h).2.2.2.2.2.2.2
  have hK := keeps_step s m
  have fix' := fix.of hK.code hK.tape
  clear fix hK
  unfold LeakAV at hS
  generalize hlk : leakM s m = lk at *
  have hlc : lk.cells = [W32 lk.pc, W16 lk.code, W32 lk.a, W32 lk.b, W32 lk.r, W32 lk.old, W32 lk.bus, W32 lk.addr, .bool lk.memory, .bool lk.random] := rfl
  rw [hlc] at hS
  generalize stepM s m = r at *
  obtain ⟨rs, rm, rstop, re⟩ := r
  simp only [stBlk, outB] at hs out fst ⊢
  dsimp only at *
  have hk' : (ls.length : Int) < (lim : Int) := by omega
  have n0 : 0 < B.next := by omega
  by_cases hn : ls = []
  · subst hn
    simp only [lAV, if_true, List.length_nil] at out ⊢
    by_cases he : re = 0
    · subst he
      cases rstop with
      | true =>
        refine .inr (.inl ⟨rfl, rfl, ?_⟩)
        refine ⟨?_, ?_, ?_⟩
        rotate_left
        · simp -implicitDefEqProofs +contextual (disch := try first | omega | assumption | (simp only [AHeap.next_set, AHeap.next_push]; omega) | ((repeat' (first | assumption | with_reducible apply AHeap.WF.push | with_reducible apply AHeap.WF.set)) <;> first | omega | (simp only [AHeap.next_set, AHeap.next_push]; omega)) | (intro c hc; simp (disch := omega); done)) [exeL, exeF, ref08_Exec.l1, hs, out, hS, rmemPush, rmemSet, rmemGet, hk']
          rfl
        · refine ⟨?_, fix'.keep ?_ ?_ ?_, ?_, ?_, ?_, ?_, ?_⟩
          · (repeat' (first | assumption | with_reducible apply AHeap.WF.push | with_reducible apply AHeap.WF.set)) <;> (simp <;> omega)
          · simp; try omega
          · simp (disch := omega)
          · simp (disch := omega)
          · simp; omega
          · simp; omega
          · simp; omega
          · simp (disch := omega) [outB, fst]
          · refine ⟨B.next + 3, _, by simp (disch := omega) [outB, lAV]; rfl, fun _ => ⟨by omega, by omega, by omega, by omega, by omega, by omega, by omega, by simp (disch := omega) [lrows, hlc]⟩⟩
      | false =>
        refine .inr (.inr ⟨rfl, rfl, ?_⟩)
        refine ⟨?_, ?_, ?_, ?_⟩
        rotate_left
        · simp -implicitDefEqProofs +contextual (disch := try first | omega | assumption | (simp only [AHeap.next_set, AHeap.next_push]; omega) | ((repeat' (first | assumption | with_reducible apply AHeap.WF.push | with_reducible apply AHeap.WF.set)) <;> first | omega | (simp only [AHeap.next_set, AHeap.next_push]; omega)) | (intro c hc; simp (disch := omega); done)) [exeL, exeF, ref08_Exec.l1, hs, out, hS, rmemPush, rmemSet, rmemGet, hk']
          rfl
        · refine ⟨?_, fix'.keep ?_ ?_ ?_, ?_, ?_, ?_, ?_, ?_⟩
          · (repeat' (first | assumption | with_reducible apply AHeap.WF.push | with_reducible apply AHeap.WF.set)) <;> (simp <;> omega)
          · simp; try omega
          · simp (disch := omega)
          · simp (disch := omega)
          · simp; omega
          · simp; omega
          · simp; omega
          · simp (disch := omega) [outB, fst]
          · refine ⟨B.next + 3, _, by simp (disch := omega) [outB, lAV]; rfl, fun _ => ⟨by omega, by omega, by omega, by omega, by omega, by omega, by omega, by simp (disch := omega) [lrows, hlc]⟩⟩
        · simp (disch := omega) [stBlk]
    · refine .inl ⟨he, ?_⟩
      refine ⟨?_, ?_, ?_⟩
      rotate_left
      · simp -implicitDefEqProofs +contextual (disch := try first | omega | assumption | (simp only [AHeap.next_set, AHeap.next_push]; omega) | ((repeat' (first | assumption | with_reducible apply AHeap.WF.push | with_reducible apply AHeap.WF.set)) <;> first | omega | (simp only [AHeap.next_set, AHeap.next_push]; omega)) | (intro c hc; simp (disch := omega); done)) [exeL, exeF, ref08_Exec.l1, hs, out, hS, rmemPush, rmemSet, rmemGet, hk', he]
        rfl
      · refine ⟨?_, fix'.keep ?_ ?_ ?_, ?_, ?_, ?_, ?_, ?_⟩
        · (repeat' (first | assumption | with_reducible apply AHeap.WF.push | with_reducible apply AHeap.WF.set)) <;> (simp <;> omega)
        · simp; try omega
        · simp (disch := omega)
        · simp (disch := omega)
        · simp; omega
        · simp; omega
        · simp; omega
        · simp (disch := omega) [outB, fst]
        · exact ⟨c, _, by simp (disch := omega) [outB, lAV]; rfl, fun h => (h rfl).elim⟩
  · obtain ⟨c0, c1, c2, c3, c4, c6, c7, hcg⟩ := hc hn
    have hc7 := hc5 hn
    simp only [lAV, hn, if_false] at out ⊢
    by_cases he : re = 0
    · subst he
      cases rstop with
      | true =>
        refine .inr (.inl ⟨rfl, rfl, ?_⟩)
        refine ⟨?_, ?_, ?_⟩
        rotate_left
        · simp -implicitDefEqProofs +contextual (disch := try first | omega | assumption | (simp only [AHeap.next_set, AHeap.next_push]; omega) | ((repeat' (first | assumption | with_reducible apply AHeap.WF.push | with_reducible apply AHeap.WF.set)) <;> first | omega | (simp only [AHeap.next_set, AHeap.next_push]; omega)) | (intro c hc; simp (disch := omega); done)) [exeL, exeF, ref08_Exec.l1, hs, out, hS, rmemPush, rmemSet, rmemGet, hk', hcg]
          rfl
        · refine ⟨?_, fix'.keep ?_ ?_ ?_, ?_, ?_, ?_, ?_, ?_⟩
          · (repeat' (first | assumption | with_reducible apply AHeap.WF.push | with_reducible apply AHeap.WF.set)) <;> (simp <;> omega)
          · simp; try omega
          · simp (disch := omega)
          · simp (disch := omega)
          · simp; omega
          · simp; omega
          · simp; omega
          · simp (disch := omega) [outB, fst]
          · refine ⟨B.next + 3, _, by simp (disch := omega) [outB, lAV]; rfl, fun _ => ⟨by omega, by omega, by omega, by omega, by omega, by omega, by omega, by simp (disch := omega) [lrows, hlc]⟩⟩
      | false =>
        refine .inr (.inr ⟨rfl, rfl, ?_⟩)
        refine ⟨?_, ?_, ?_, ?_⟩
        rotate_left
        · simp -implicitDefEqProofs +contextual (disch := try first | omega | assumption | (simp only [AHeap.next_set, AHeap.next_push]; omega) | ((repeat' (first | assumption | with_reducible apply AHeap.WF.push | with_reducible apply AHeap.WF.set)) <;> first | omega | (simp only [AHeap.next_set, AHeap.next_push]; omega)) | (intro c hc; simp (disch := omega); done)) [exeL, exeF, ref08_Exec.l1, hs, out, hS, rmemPush, rmemSet, rmemGet, hk', hcg]
          rfl
        · refine ⟨?_, fix'.keep ?_ ?_ ?_, ?_, ?_, ?_, ?_, ?_⟩
          · (repeat' (first | assumption | with_reducible apply AHeap.WF.push | with_reducible apply AHeap.WF.set)) <;> (simp <;> omega)
          · simp; try omega
          · simp (disch := omega)
          · simp (disch := omega)
          · simp; omega
          · simp; omega
          · simp; omega
          · simp (disch := omega) [outB, fst]
          · refine ⟨B.next + 3, _, by simp (disch := omega) [outB, lAV]; rfl, fun _ => ⟨by omega, by omega, by omega, by omega, by omega, by omega, by omega, by simp (disch := omega) [lrows, hlc]⟩⟩
        · simp (disch := omega) [stBlk]
    · refine .inl ⟨he, ?_⟩
      refine ⟨?_, ?_, ?_⟩
      rotate_left
      · simp -implicitDefEqProofs +contextual (disch := try first | omega | assumption | (simp only [AHeap.next_set, AHeap.next_push]; omega) | ((repeat' (first | assumption | with_reducible apply AHeap.WF.push | with_reducible apply AHeap.WF.set)) <;> first | omega | (simp only [AHeap.next_set, AHeap.next_push]; omega)) | (intro c hc; simp (disch := omega); done)) [exeL, exeF, ref08_Exec.l1, hs, out, hS, rmemPush, rmemSet, rmemGet, hk', he, hcg]
        rfl
      · refine ⟨?_, fix'.keep ?_ ?_ ?_, ?_, ?_, ?_, ?_, ?_⟩
        · (repeat' (first | assumption | with_reducible apply AHeap.WF.push | with_reducible apply AHeap.WF.set)) <;> (simp <;> omega)
        · simp; try omega
        · simp (disch := omega)
        · simp (disch := omega)
        · simp; omega
        · simp; omega
        · simp; omega
        · simp (disch := omega) [outB, fst]
        · exact ⟨c, _, by simp (disch := omega) [outB, lAV, hn]; rfl, fun _ => ⟨c0, c1, c2, c3, c4, c6, c7, by simp (disch := omega) [hcg]⟩⟩
end Go.Abs
