/-
  The law that sums and differences of registers are those of words.
-/
import Derived.Test.YteohnepdbjmghaaC9a
import Derived.Test.YteohnepdbjmghaaWA
import Derived.Test.YteohnepdbjmghaaS2
import Derived.Test.YteohnepdbjmghaaL06bF
set_option linter.unusedSimpArgs false
set_option linter.unusedVariables false
namespace Go.Abs
open Th
def sumI (minus : Bool) : InsM := if minus = true then ⟨8, 0, 1, 2, 0⟩ else ⟨7, 0, 1, 2, 0⟩
def sumH (minus : Bool) : BitVec 16 := if minus = true then 6792#16 else 6280#16
theorem sum_take : ∀ minus, takeN (sumH minus).toNat = (sumI minus, 0) := by decide +kernel
theorem sum_step (s : StM) (minus : Bool) : stepM (s.setPC 0#32) (MemM.new [sumH minus] 0 []) =
    ⟨((addS (s.setPC 0#32) (s.reg 1) (if minus = true then ~~~(s.reg 2) else s.reg 2) minus).1.setR 0 (addS (s.setPC 0#32) (s.reg 1) (if minus = true then ~~~(s.reg 2) else s.reg 2) minus).2).setPC 2#32, MemM.new [sumH minus] 0 [], false, 0⟩ := by
  have hf : (MemM.new [sumH minus] 0 []).fetch (s.setPC 0#32).pc = (sumH minus, 0) := by
    have hp : (s.setPC 0#32).pc = 0#32 := rfl
    rw [hp]; cases minus <;> decide +kernel
  unfold stepM
  rw [hf, if_pos rfl, sum_take, if_pos rfl]
  cases minus <;> rfl
theorem sub_not (x : BitVec 32) : 4294967295#32 - x = ~~~x := by
  apply BitVec.eq_of_toNat_eq
  rw [BitVec.toNat_sub, BitVec.toNat_not]
  have := x.isLt
  simp; omega
theorem cells_scv (n : Nat) (s : StM) : s.cells.all (scv n) = true := by
  unfold StM.cells
  rw [List.all_append, Bool.and_eq_true]
  refine ⟨List.all_eq_true.2 fun x hx => ?_, rfl⟩
  obtain ⟨y, _, rfl⟩ := List.mem_map.1 hx
  rfl
theorem sum_fin (s : StM) (a b : BitVec 32) (c : Bool) : ((((((addS s a b c).1.setR 0 (addS s a b c).2).reg 0 = (addM a b c).w ∧ (addS s a b c).1.c = (addM a b c).c) ∧ (addS s a b c).1.v = (addM a b c).v) ∧
    (addS s a b c).1.n = decide (2147483648#32 ≤ (addM a b c).w)) ∧ (addS s a b c).1.z = ((addM a b c).w == 0#32)) := by
  refine ⟨⟨⟨⟨?_, rfl⟩, rfl⟩, ?_⟩, rfl⟩
  · unfold StM.reg StM.setR at0
    rw [List.getD_eq_getElem?_getD, List.getElem?_set]
    simp [StM.len, addS]
  · show (addM a b c).w.msb = _
    rw [BitVec.msb_eq_decide]
    exact decide_eq_decide.2 (by rw [BitVec.le_def]; rfl)
abbrev cpBlk (s : StM) : Blk := { e := T.ty_api_State, sz := 13, flat := true, rows := [s.cells] }
abbrev caH (s : StM) (h : BitVec 16) : AHeap := ((AHeap.empty.push (cpBlk s)).set 0 (some (cpBlk (s.setPC 0#32)))).push { e := T.ty_uint16, sz := 1, flat := true, rows := [[W16 h]] }
theorem ca_scope (s : StM) (h : BitVec 16) : ScH (caH s h) 2 := by
  refine ((ScH.empty 2).push ?_).set ?_ |>.push ?_
  · simp [cells_scv]
  · simp [cells_scv]
  · rfl
set_option maxHeartbeats 4000000 in
theorem coreAdds_law (s : StM) (minus : Bool) : law06_CoreAdds.spec [.agg s.cells, .bool minus] = some (.bool true) := by
  have hSt := sum_step s minus
  have hA := rAdd_eq (s.reg 1) (if minus = true then ~~~(s.reg 2) else s.reg 2) minus
  have hok := new_ok [sumH minus] [] 0 (by simp)
  obtain ⟨X, x1, x2, hn, x3⟩ := new_ex ((caH s (sumH minus)).killAll [1]) [sumH minus] [] 0 (killAll_wf ((AHeap.WF.push (AHeap.WF.set (AHeap.WF.push AHeap.WF.empty) (by simp)))) _) (by simp) (by simp)
  have hsc := ca_scope s (sumH minus)
  have hsx : ScH X 4 := (((hsc.kill [1]).sub fun b x hb => by rw [← x3 b]; exact hb).mono (by omega))
  have hm0 : (MemM.new [sumH minus] 0 []).Ok := hok
  have e2 : (caH s (sumH minus)).next = 2 := rfl
  rw [next_killAll, e2] at x2 hn
  have hS := Step_eq X 3 2 (MemM.new [sumH minus] 0 []) x1 (by omega) (by omega) (by omega) hok (s.setPC 0#32)
  rw [hSt] at hS
  unfold DidAV at hS
  have hsan1 : san (caH s (sumH minus)) (some (.ptr 3 5 0 0, X.mem 3 2 (MemM.new [sumH minus] 0 []))) = _ := san_wf (mem_wf _ _ _ _ x1 (by omega) (by omega)) (by simp [x2, e2])
  have hsan2 : ∀ v, san (X.mem 3 2 (MemM.new [sumH minus] 0 [])) (some (v, X.mem 3 2 (MemM.new [sumH minus] 0 []))) = _ := fun v => san_wf (mem_wf _ _ _ _ x1 (by omega) (by omega)) (Nat.le_refl _)
  have hs1 : ∀ f, Scope [.clo f [] [], .sl 1 1 0 1, .int .i64 0, .nils] (caH s (sumH minus)) := fun f => Scope.of rfl hsc
  have hs2 : ∀ f, Scope [.clo f [] [], .agg (s.setPC 0#32).cells, .ptr 3 5 0 0] (X.mem 3 2 (MemM.new [sumH minus] 0 [])) := fun f => by
    have hx4 : (X.mem 3 2 (MemM.new [sumH minus] 0 [])).next = 4 := x2
    refine Scope.of ?_ (by rw [hx4]; exact hsx.mem (by omega))
    rw [hx4]
    have hc : (s.setPC 0#32).cells.all (idsBelow 4) = true := List.all_eq_true.2 fun x hx => by
      have := List.all_eq_true.1 (cells_scv 4 (s.setPC 0#32)) x hx
      unfold StM.cells at hx
      rcases List.mem_append.1 hx with hx | hx
      · obtain ⟨y, _, rfl⟩ := List.mem_map.1 hx; rfl
      · simp only [List.mem_cons, List.not_mem_nil, or_false] at hx
        rcases hx with rfl | rfl | rfl | rfl | rfl <;> rfl
    simp [scv, idsBelow, hc]
  have x0 := x3 0
  simp [w16s, w32s] at hn hsan1 hsan2 hs1 hs2 hS x0 hA
  cases minus with
  | false =>
    simp only [sumH, if_false, Bool.false_eq_true] at *
    simp -implicitDefEqProofs +contextual (disch := omega) [law06_CoreAdds.spec, law06_CoreAdds, hn, hS, hA, lives06, hsan1, hsan2, hs1, hs2, memPush, memSet, memGet, x2, x0]
    exact sum_fin _ _ _ _
  | true =>
    simp only [sumH, if_true] at *
    simp -implicitDefEqProofs +contextual (disch := omega) [law06_CoreAdds.spec, law06_CoreAdds, hn, hS, hA, lives06, hsan1, hsan2, hs1, hs2, memPush, memSet, memGet, x2, x0, sub_not]
    exact sum_fin _ _ _ _
theorem law06_CoreAdds_law (args : List AV) (h : ArgsSh [(true, [.int .u32, .int .u32, .int .u32, .int .u32, .int .u32, .int .u32, .int .u32, .int .u32, .int .u32, .bool, .bool, .bool, .bool]), (false, [.bool])] args) : law06_CoreAdds.spec args = some (.bool true) := by
  obtain ⟨cs, _, rfl, h1, h⟩ := args_agg h
  obtain ⟨a, _, rfl, h2, h⟩ := args_one h
  obtain rfl := args_nil h
  obtain ⟨s, rfl⟩ := sh_state h1
  obtain ⟨b, rfl⟩ := sh_bool h2.1
  exact coreAdds_law s b
end Go.Abs
