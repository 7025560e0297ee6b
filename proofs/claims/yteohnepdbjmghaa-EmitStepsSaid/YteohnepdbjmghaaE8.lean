/-
  Steps as instructions: a step by itself.
-/
import Derived.Test.YteohnepdbjmghaaE7
import Derived.Test.YteohnepdbjmghaaJA
set_option linter.unusedSimpArgs false
set_option linter.unusedVariables false
namespace Go.Abs
open Th
def slotOk (n : Int) : Bool := decide (0 ≤ n) && decide (n ≤ 16000)
theorem etakes_eq (k : Int) : emit_takes.spec [.int .i64 k] = some (.int .i64 (if k = 1 ∨ k = 2 then 2 else if k = 0 ∨ k = 7 then 0 else 1)) := by
  by_cases h1 : k = 1
  · subst h1; simp -implicitDefEqProofs +contextual (disch := omega) [emit_takes.spec, emit_takes]
  by_cases h2 : k = 2
  · subst h2; simp -implicitDefEqProofs +contextual (disch := omega) [emit_takes.spec, emit_takes]
  rw [if_neg (by omega)]
  by_cases h0 : k = 0
  · subst h0; simp -implicitDefEqProofs +contextual (disch := omega) [emit_takes.spec, emit_takes]
  by_cases h7 : k = 7
  · subst h7; simp -implicitDefEqProofs +contextual (disch := omega) [emit_takes.spec, emit_takes]
  rw [if_neg (by omega)]
  simp -implicitDefEqProofs +contextual (disch := omega) [emit_takes.spec, emit_takes, h1, h2, h0, h7]
theorem step1_eq (n : Int) : emit_Step_1.spec [.int .i64 n] = some (.bool (!slotOk n)) := by
  have hs := slot_eq n
  unfold slotOk
  generalize (decide (0 ≤ n) && decide (n ≤ 16000)) = b at *
  cases b <;> simp -implicitDefEqProofs +contextual (disch := omega) [emit_Step_1.spec, emit_Step_1, hs]
theorem sindex_eq (g : FuncId) (s : SpecP) (hC : slices_IndexFunc_int.C emit_Step_1.spec emit_Code_1.spec verify_asked_ready_1.spec g = some (.pure false s)) (hs : ∀ n, s [.int .i64 n] = some (.bool (!slotOk n)))
    (X : AHeap) (hX : X.WF) (l : List Int) (hll : l.length ≤ 1000000000) :
    ∃ i : Int, slices_IndexFunc_int.spec [.rsl 1 (ints l), .clo g [] []] X = some (.int .i64 i, X) ∧ (0 ≤ i ↔ (l.any fun n => !slotOk n) = true) := by
  have hrun : ∃ (i : Int), slices_IndexFunc_int.spec [.rsl 1 (ints l), .clo g [] []] X = forget X (some ([.int .i64 i], X)) ∧ (0 ≤ i ↔ (l.any fun n => !slotOk n) = true) := by
    generalize hA : (l.any fun n => !slotOk n) = A
    simp -implicitDefEqProofs +contextual (disch := omega) [slices_IndexFunc_int.spec, slices_IndexFunc_int]
    generalize hr : aloop _ _ _ = r
    obtain ⟨e, fr', X', rfl, rfl, hq⟩ : ∃ e fr' X', r = some (e, fr', X') ∧ (X' = X ∧ ((e = .exit 0 ∧ A = false) ∨ (e = .ret ∧ A = true ∧ ∃ k : Nat, fr' 4 = .int .i64 k))) := by
      refine run_of hr (aloop_each l.length (fun k fr H => H = X ∧ (∃ y, fr = AFr.al ([(0, .rsl 1 (ints l)), (1, .clo g [] []), (7, .int .i64 l.length), (8, .int .i64 k)] ++ y)) ∧ ((l.take k).any fun n => !slotOk n) = false) _ (fun k hk fr H hR => ?_) (fun fr H hR => ?_) ⟨rfl, ⟨[], rfl⟩, rfl⟩)
      · obtain ⟨rfl, ⟨y, rfl⟩, h3⟩ := hR
        have hk' : (k : Int) < l.length := by omega
        have hk1 : ((k + 1 : Nat) : Int) = (k : Int) + 1 := by omega
        have hme : l[k] ∈ l := List.getElem_mem hk
        have h1 := hs (ati l k)
        have hss : ((l.take (k + 1)).any fun n => !slotOk n) = !slotOk (ati l k) := by rw [List.take_succ_eq_append_getElem hk, List.any_append, h3, ati_eq l k hk]; simp
        rw [hss]
        rw [← ati_eq l k hk] at hme
        cases hv : slotOk (ati l k) with
        | false =>
          rw [hv] at h1
          refine ⟨_, _, _, by simp -implicitDefEqProofs +contextual (disch := omega) [slices_IndexFunc_int.l0, acallClo, acallR, hC, hk, hk', h1]; first | rfl | exact ⟨rfl, rfl⟩ | exact ⟨rfl, rfl, rfl⟩, .inr ⟨by simp, rfl, .inr ⟨rfl, hA.symm.trans (List.any_eq_true.2 ⟨_, hme, by rw [hv]; rfl⟩), k, by simp⟩⟩⟩
        | true =>
          rw [hv] at h1
          rw [hk1]
          refine ⟨_, _, _, by simp -implicitDefEqProofs +contextual (disch := omega) [slices_IndexFunc_int.l0, acallClo, acallR, hC, hk, hk', h1]; first | rfl | exact ⟨rfl, rfl⟩ | exact ⟨rfl, rfl, rfl⟩, .inl ⟨rfl, rfl, ⟨_, rfl⟩, rfl⟩⟩
      · obtain ⟨rfl, ⟨y, rfl⟩, h3⟩ := hR
        rw [List.take_length] at h3
        refine ⟨_, _, _, by simp -implicitDefEqProofs +contextual (disch := omega) [slices_IndexFunc_int.l0]; first | rfl | exact ⟨rfl, rfl⟩ | exact ⟨rfl, rfl, rfl⟩, by simp, rfl, .inl ⟨rfl, hA.symm.trans h3⟩⟩
    rcases hq with ⟨rfl, q⟩ | ⟨rfl, q, k, hk⟩
    · refine ⟨-1, by simp -implicitDefEqProofs +contextual (disch := omega) [], by rw [q]; simp⟩
    · refine ⟨k, by simp -implicitDefEqProofs +contextual (disch := omega) [hk], by rw [q]; simp⟩
  obtain ⟨i, h1, h2⟩ := hrun
  refine ⟨i, ?_, h2⟩
  rw [h1, forget_eq hX (Nat.le_refl _) (fun _ _ => rfl) rfl]
  rfl
theorem scontains_eq (g : FuncId) (s : SpecP) (hC : slices_IndexFunc_int.C emit_Step_1.spec emit_Code_1.spec verify_asked_ready_1.spec g = some (.pure false s)) (hs : ∀ n, s [.int .i64 n] = some (.bool (!slotOk n)))
    (X : AHeap) (hX : X.WF) (l : List Int) (hll : l.length ≤ 1000000000) :
    slices_ContainsFunc_int.spec [.rsl 1 (ints l), .clo g [] []] X = some (.bool (l.any fun n => !slotOk n), X) := by
  obtain ⟨i, h1, h2⟩ := sindex_eq g s hC hs X hX l hll
  have e : slices_ContainsFunc_int.spec [.rsl 1 (ints l), .clo g [] []] X = forget X (some ([.bool (l.any fun n => !slotOk n)], X)) := by
    by_cases hi : 0 ≤ i
    · simp -implicitDefEqProofs +contextual (disch := omega) [slices_ContainsFunc_int.spec, slices_ContainsFunc_int, h1, hi, h2.1 hi]
    · have : (l.any fun n => !slotOk n) = false := by
        rw [Bool.eq_false_iff]; exact fun q => hi (h2.2 q)
      simp -implicitDefEqProofs +contextual (disch := omega) [slices_ContainsFunc_int.spec, slices_ContainsFunc_int, h1, hi, this]
  rw [e, forget_eq hX (Nat.le_refl _) (fun _ _ => rfl) rfl]
  rfl
theorem hC_step : slices_IndexFunc_int.C emit_Step_1.spec emit_Code_1.spec verify_asked_ready_1.spec 72 = some (.pure false emit_Step_1.spec) := by simp [slices_IndexFunc_int.C, Tab.add]
end Go.Abs
