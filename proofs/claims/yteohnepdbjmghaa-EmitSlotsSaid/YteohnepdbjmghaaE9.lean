/-
  Steps as instructions: a step by itself, if it is one.
-/
import Derived.Test.YteohnepdbjmghaaE8
set_option linter.unusedSimpArgs false
set_option linter.unusedVariables false
namespace Go.Abs
open Th
theorem scontains_of {g : FuncId} {s : SpecP} (hC : slices_IndexFunc_int.C emit_Step_1.spec emit_Code_1.spec verify_asked_ready_1.spec g = some (.pure false s)) (hs : ∀ n, s [.int .i64 n] = some (.bool (!slotOk n)))
    {X : AHeap} {l : List Int} {r} (hr : slices_ContainsFunc_int.spec [.rsl 1 (ints l), .clo g [] []] X = r) (hX : X.WF) (hll : l.length ≤ 1000000000) :
    r = some (.bool (l.any fun n => !slotOk n), X) := by
  subst hr; exact scontains_eq g s hC hs X hX l hll
def oneC (o : OpM) : CodeM := ⟨1, [⟨o.k, 0, 0, o.n⟩], []⟩
def takesI (k : Int) : Int := if k = 1 ∨ k = 2 then 2 else if k = 0 ∨ k = 7 then 0 else 1
def fitsI (o : OpM) (dst : Int) (src : List Int) : Bool := (oneC o).can && decide ((src.length : Int) = takesI o.k) && slotOk dst && !(src.any fun n => !slotOk n)
theorem slots_nat (l : List Int) (h : (l.any fun n => !slotOk n) = false) : ∃ m : List Nat, l = m.map (fun x : Nat => (x : Int)) ∧ ∀ x ∈ m, x ≤ 16000 := by
  refine ⟨l.map Int.toNat, ?_, fun x hx => ?_⟩
  · rw [List.map_map]
    refine (List.map_id l).symm.trans (List.map_congr_left fun n hn => ?_)
    have := List.any_eq_false.1 h n hn
    simp [slotOk] at this
    simp; omega
  · obtain ⟨n, hn, rfl⟩ := List.mem_map.1 hx
    have := List.any_eq_false.1 h n hn
    simp [slotOk] at this
    omega
theorem takesI_le (k : Int) : takesI k ≤ 2 := by unfold takesI; repeat' split <;> omega
theorem stepI_ab (o : OpM) (a b : Int) (dst : Nat) (src : List Nat) : stepI ⟨o.k, a, b, o.n⟩ dst src = stepI o dst src := rfl
theorem EStep_eq (o : OpM) (dst : Int) (src : List Int) (hl : src.length ≤ 1000000000) :
    emit_Step.spec [.agg o.cells, .int .i64 dst, .rsl 1 (ints src)] = some (.rsl 5 (insRows (if fitsI o dst src = true then stepI o dst.toNat (src.map Int.toNat) else []))) := by
  have hcan := Can_eq' (oneC o) (by simp [oneC]) (by simp [oneC])
  have ht := etakes_eq o.k
  have htk : (if o.k = 1 ∨ o.k = 2 then (2 : Int) else if o.k = 0 ∨ o.k = 7 then 0 else 1) = takesI o.k := rfl
  rw [htk] at ht
  have hst := slot_eq dst
  unfold CodeM.cells oneC at hcan
  simp only [opRows, List.map_cons, List.map_nil, OpM.cells, ints, Option.some.injEq] at hcan
  unfold fitsI
  have hone : (oneC o).can = (CodeM.mk 1 [⟨o.k, 0, 0, o.n⟩] []).can := rfl
  rw [← hone] at hcan
  have hso : (decide (0 ≤ dst) && decide (dst ≤ 16000)) = slotOk dst := rfl
  rw [hso] at hst
  unfold OpM.cells
  cases hc : (oneC o).can with
  | false =>
    rw [hc] at hcan
    simp -implicitDefEqProofs +contextual (disch := omega) [emit_Step.spec, emit_Step, hcan, insRows]
  | true =>
    rw [hc] at hcan
    by_cases hlen : (src.length : Int) = takesI o.k
    · rw [decide_eq_true hlen]
      cases hs : slotOk dst with
      | false =>
        rw [hs] at hst
        simp -implicitDefEqProofs +contextual (disch := omega) [emit_Step.spec, emit_Step, hcan, ht, hlen, hst, insRows]
      | true =>
        rw [hs] at hst
        simp -implicitDefEqProofs +contextual (disch := omega) [emit_Step.spec, emit_Step, hcan, ht, hlen, hst]
        generalize hr : slices_ContainsFunc_int.spec _ _ = r
        obtain rfl := scontains_of hC_step step1_eq hr (by (repeat' (first | assumption | with_reducible apply AHeap.WF.push | with_reducible apply AHeap.WF.set | with_reducible apply killAll_wf | exact AHeap.WF.empty)) <;> (simp <;> omega)) hl
        cases hany : src.any fun n => !slotOk n with
        | true =>
          simp -implicitDefEqProofs +contextual (disch := omega) [insRows]
          intro h
          simp at hany
          obtain ⟨x, hx, h2⟩ := hany
          rw [h x hx] at h2; cases h2
        | false =>
          obtain ⟨m, rfl, hm⟩ := slots_nat src hany
          obtain ⟨k, rfl⟩ : ∃ k : Nat, dst = k := ⟨dst.toNat, by simp [slotOk] at hs; omega⟩
          have hk : k ≤ 16000 := by simp [slotOk] at hs; omega
          have hml : m.length ≤ 2 := by have := takesI_le o.k; simp at hlen; omega
          have hE := estep_eq ⟨o.k, 0, 0, o.n⟩ k hk m hml hm
          rw [stepI_ab] at hE
          unfold OpM.cells at hE
          have hmm : (m.map fun x : Nat => (x : Int)).map Int.toNat = m := by rw [List.map_map]; exact (List.map_congr_left fun x _ => by simp).trans (List.map_id m)
          rw [hmm, Int.toNat_natCast]
          generalize stepI o k m = L at *
          simp -implicitDefEqProofs +contextual (disch := omega) [hE]
          rw [if_pos (fun a ha => by have := hm a ha; simp [slotOk]; omega)]
    · rw [decide_eq_false hlen]
      simp -implicitDefEqProofs +contextual (disch := omega) [emit_Step.spec, emit_Step, hcan, ht, hlen, insRows]
end Go.Abs
