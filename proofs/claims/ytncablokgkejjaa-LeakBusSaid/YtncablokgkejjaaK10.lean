/-
  The law of the word on the bus: the whole.
-/
import Derived.Test.YtncablokgkejjaaK9
import Derived.Test.YtncablokgkejjaaM5
set_option linter.unusedSimpArgs false
set_option linter.unusedVariables false
namespace Go.Abs
open Th
noncomputable abbrev busL0 := law07_LeakBus.l0 mem_New.spec leak_Step.spec mem_Mem_Bus.spec law07_lives.spec
noncomputable abbrev busL1 := law07_LeakBus.l1 mem_New.spec leak_Step.spec mem_Mem_Bus.spec law07_lives.spec
theorem bus_code (l : List (BitVec 32)) (c k : Nat) (X : AHeap) (hk : k < l.length) (h20 : k < 20) (hw : X.WF) (hg : X.get c = some ⟨T.ty_uint16, 1, true, w16s ((l.take k).map busW)⟩) :
    ∃ c' X', busL0 (AFr.al [(0, .rsl 1 (w32s l)), (3, .sl c 1 0 k), (4, .int .i64 k)]) X = some (.normal, AFr.al [(0, .rsl 1 (w32s l)), (3, .sl c' 1 0 (k + 1)), (4, .int .i64 (k + 1 : Nat))], X') ∧ X'.WF ∧ X'.get c' = some ⟨T.ty_uint16, 1, true, w16s ((l.take (k + 1)).map busW)⟩ := by
  have h1 : (k : Int) < (l.length : Int) := by omega
  have h2 : (k : Int) < 20 := by omega
  have hc := hw _ _ hg
  have hl : (l.take k).length = k := by simp; omega
  refine ⟨X.next + 1, ?_, ?_, ?_, ?_⟩
  rotate_left
  · simp -implicitDefEqProofs +contextual (disch := try first | omega | assumption) [busL0, law07_LeakBus.l0, h1, h2, hk, hg, hl, w16s_snoc]
    rfl
  · (repeat' (first | assumption | with_reducible apply AHeap.WF.push | with_reducible apply AHeap.WF.set)) <;> (simp <;> omega)
  · simp (disch := omega) [take_succ l k hk, busW, w16s]
def s07b : StM := ⟨[5#32, 536870912#32, 0#32, 0#32, 0#32, 0#32, 0#32, 0#32], rfl, 0#32, false, false, false, false⟩
set_option maxHeartbeats 4000000 in
theorem bus_round (l : List (BitVec 32)) (n : Nat) (hn : n = min l.length 20) (c : Nat) (B : AHeap) (b wb st : Nat) (hw : B.WF) (hb : b < B.next) (hwb : wb < B.next) (hbw : b ≠ wb) (hs1 : st ≠ b) (hs2 : st ≠ wb) (s : StM) (m : MemM) (i : Nat) (hi : i < n)
    (hs : B.get st = some (stBlk s)) (hm : m.Ok) (hmw : m.words.length = 4) (hcd : m.code = (l.take n).map busW) (hpc : s.pc = BitVec.ofNat 32 (2 * i)) (hr : s.reg 1 = 536870912#32) :
    ∃ B' : AHeap, busL1 (AFr.al [(0, .rsl 1 (w32s l)), (3, .sl c 1 0 n), (5, .ptr b 5 0 0), (6, .ptr st 13 0 0), (7, W32 m.bus), (8, .int .i64 i)]) (B.mem b wb m) =
        some (.normal, AFr.al [(0, .rsl 1 (w32s l)), (3, .sl c 1 0 n), (5, .ptr b 5 0 0), (6, .ptr st 13 0 0), (7, W32 (stepM s m).m.bus), (8, .int .i64 (i + 1 : Nat))], B'.mem b wb (stepM s m).m) ∧
      B'.WF ∧ B.next ≤ B'.next ∧ B'.get st = some (stBlk ((stepM s m).s.setR 0 ((stepM s m).s.reg 0 + 3#32))) ∧ (stepM s m).s.pc = BitVec.ofNat 32 (2 * (i + 1)) ∧ (stepM s m).s.reg 1 = 536870912#32 := by
  have hpn : s.pc.toNat = 2 * i := by rw [hpc, BitVec.toNat_ofNat]; omega
  have hf : m.fetch s.pc = (busW (at0 l i), 0) := by
    unfold MemM.fetch
    have e1 : s.pc % 2#32 = 0#32 := BitVec.eq_of_toNat_eq (by rw [BitVec.toNat_umod, hpn]; simp)
    have e2 : s.pc.toNat / 2 = i := by omega
    have e3 : i < m.code.length := by rw [hcd]; simp; omega
    rw [if_pos ⟨e1, by rw [e2]; exact e3⟩, e2]
    congr 1
    have q1 := at0_get m.code i e3
    have q2 := at0_get l i (by omega)
    rw [hcd, List.getElem?_map, List.getElem?_take, if_pos hi, q2] at q1
    simp only [Option.map_some, Option.some.injEq] at q1
    rw [hcd]; exact q1.symm
  obtain ⟨p1, p2, p3, p4, p5, p6, p7, p8⟩ := bus_step s m (at0 l i) hf hr hmw
  have hst := hw _ _ hs
  have hS := fun (B' : AHeap) (h1 : B'.WF) (h2 : b < B'.next) (h3 : wb < B'.next) => LStep_eq B' b wb m h1 h2 h3 hbw hm s
  have h1 : (i : Int) < (n : Int) := by omega
  have h2 : i < l.length := by omega
  have hpc2 : (stepM s m).s.pc = BitVec.ofNat 32 (2 * (i + 1)) := by
    rw [p3, hpc]; apply BitVec.eq_of_toNat_eq; simp; omega
  unfold LeakAV LeakM.cells at hS
  rw [p1, p4, p5, p6, p7, p8] at hS
  generalize stepM s m = r at *
  generalize leakM s m = lk at *
  obtain ⟨rs, rm, rstop, re⟩ := r
  dsimp only at *
  simp only [stBlk] at hs ⊢
  refine ⟨?_, ?_, ?_, ?_, ?_, hpc2, p2⟩
  rotate_left
  · simp -implicitDefEqProofs +contextual (disch := try first | omega | assumption | (simp only [AHeap.next_set, AHeap.next_push]; omega) | ((repeat' (first | assumption | with_reducible apply AHeap.WF.push | with_reducible apply AHeap.WF.set)) <;> first | omega | (simp only [AHeap.next_set, AHeap.next_push]; omega))) [busL1, law07_LeakBus.l1, hs, hS, memPush, memSet, memGet, h1, h2]
    rfl
  · (repeat' (first | assumption | with_reducible apply AHeap.WF.push | with_reducible apply AHeap.WF.set)) <;> (simp <;> omega)
  · simp
    try omega
  · simp (disch := omega)
theorem setR1 (s : StM) (v : BitVec 32) : (s.setR 0 v).reg 1 = s.reg 1 := by simp [StM.reg, StM.setR, at0]
set_option maxHeartbeats 4000000 in
theorem leakBus_law (l : List (BitVec 32)) : law07_LeakBus.spec [.rsl 1 (w32s l)] = some (.bool true) := by
  obtain ⟨n, hn⟩ : ∃ n, n = min l.length 20 := ⟨_, rfl⟩
  obtain ⟨fr1, X1, ⟨c, e1, wf1, g1⟩, hgo⟩ := aloop_rel (f := busL0) (fun k fr X => ∃ c, fr = AFr.al [(0, .rsl 1 (w32s l)), (3, .sl c 1 0 k), (4, .int .i64 k)] ∧ X.WF ∧ X.get c = some ⟨T.ty_uint16, 1, true, w16s ((l.take k).map busW)⟩)
    n (fun k hk fr X hR => by
      obtain ⟨c, rfl, w1, w2⟩ := hR
      obtain ⟨c', X', q1, q2, q3⟩ := bus_code l c k X (by omega) (by omega) w1 w2
      exact ⟨_, X', q1, c', rfl, q2, q3⟩) (fr := AFr.al [(0, .rsl 1 (w32s l)), (3, .sl 0 1 0 0), (4, .int .i64 0)]) (H := AHeap.empty.push ⟨T.ty_uint16, 1, true, []⟩) ⟨0, rfl, AHeap.WF.push AHeap.WF.empty, by simp [w16s]⟩
  subst e1
  have hl0 : ∃ fr', aloop busL0 (AFr.al [(0, .rsl 1 (w32s l)), (3, .sl 0 1 0 0), (4, .int .i64 0)]) (AHeap.empty.push ⟨T.ty_uint16, 1, true, []⟩) = some (.exit 0, fr', X1) ∧ fr' 0 = .rsl 1 (w32s l) ∧ fr' 3 = .sl c 1 0 n := by
    by_cases h : (n : Int) < (l.length : Int)
    · have h20 : ¬ (n : Int) < 20 := by omega
      refine ⟨?_, ?_, ?_⟩
      rotate_left
      · rw [hgo]
        refine aloop_exit (by simp) ?_
        simp -implicitDefEqProofs +contextual (disch := omega) [busL0, law07_LeakBus.l0, h, h20]
        rfl
      · exact ⟨rfl, rfl⟩
    · refine ⟨?_, ?_, ?_⟩
      rotate_left
      · rw [hgo]
        refine aloop_exit (by simp) ?_
        simp -implicitDefEqProofs +contextual (disch := omega) [busL0, law07_LeakBus.l0, h]
        rfl
      · exact ⟨rfl, rfl⟩
  obtain ⟨fr2, hl0, f0, f3⟩ := hl0
  have hcl : ((l.take n).map busW).length = n := by simp; omega
  have hN := new_eq (X1.killAll [c]) ((l.take n).map busW) [] 4 (by omega) (by simp)
  have hm0 := new_ok ((l.take n).map busW) [] 4 (by simp)
  have hmw0 : (MemM.new ((l.take n).map busW) 4 []).words.length = 4 := by simp only [MemM.new, List.length_replicate]; decide
  have hmc0 : (MemM.new ((l.take n).map busW) 4 []).code = (l.take n).map busW := by simp only [MemM.new]; exact List.take_of_length_le (by omega)
  have hmb0 : (MemM.new ((l.take n).map busW) 4 []).bus = 0#32 := rfl
  have hg1 := wf1 _ _ g1
  have es : s07b.cells = [W32 5#32, W32 536870912#32, W32 0#32, W32 0#32, W32 0#32, W32 0#32, W32 0#32, W32 0#32, W32 0#32, .bool false, .bool false, .bool false, .bool false] := rfl
  obtain ⟨fr3, X3, ⟨B, s, m, e3, e3', q1, q2, q3, q4, q5, q6, q7, q8⟩, hgo2⟩ := aloop_rel (f := busL1) (fun i fr X => ∃ (B : AHeap) (s : StM) (m : MemM), fr = AFr.al [(0, .rsl 1 (w32s l)), (3, .sl c 1 0 n), (5, .ptr (X1.next + 1) 5 0 0), (6, .ptr (X1.next + 2) 13 0 0), (7, W32 m.bus), (8, .int .i64 i)] ∧ X = B.mem (X1.next + 1) X1.next m ∧
      B.WF ∧ X1.next + 3 ≤ B.next ∧ B.get (X1.next + 2) = some (stBlk s) ∧ m.Ok ∧ m.words.length = 4 ∧ m.code = (l.take n).map busW ∧ s.pc = BitVec.ofNat 32 (2 * i) ∧ s.reg 1 = 536870912#32)
    n (fun i hi fr X hR => by
      obtain ⟨B, s, m, rfl, rfl, q1, q2, q3, q4, q5, q6, q7, q8⟩ := hR
      obtain ⟨B', p1, p2, p3, p4, p5, p6⟩ := bus_round l n hn c B (X1.next + 1) X1.next (X1.next + 2) q1 (by omega) (by omega) (by omega) (by omega) (by omega) s m i hi q3 q4 q5 q6 q7 q8
      have hK := keeps_step s m
      exact ⟨_, _, p1, B', _, _, rfl, rfl, p2, by omega, p4, hK.ok q4, by rw [hK.words, q5], by rw [hK.code, q6], p5, by rw [setR1]; exact p6⟩)
    (fr := AFr.al [(0, .rsl 1 (w32s l)), (3, .sl c 1 0 n), (5, .ptr (X1.next + 1) 5 0 0), (6, .ptr (X1.next + 2) 13 0 0), (7, W32 0#32), (8, .int .i64 0)])
    (H := ((((X1.killAll [c]).bump 2).push (⟨T.ty_api_State, 13, true, [[W32 0#32, W32 0#32, W32 0#32, W32 0#32, W32 0#32, W32 0#32, W32 0#32, W32 0#32, W32 0#32, .bool false, .bool false, .bool false, .bool false]]⟩)).set (X1.next + 2) (some (stBlk s07b))).mem (X1.next + 1) X1.next (MemM.new ((l.take n).map busW) 4 []))
    ⟨_, s07b, _, rfl, rfl, AHeap.WF.set (AHeap.WF.push (bump_wf (killAll_wf wf1 _) 2)) (by simp), by simp, by simp, hm0, hmw0, hmc0, rfl, rfl⟩
  subst e3 e3'
  have hl1 : aloop busL1 (AFr.al [(0, .rsl 1 (w32s l)), (3, .sl c 1 0 n), (5, .ptr (X1.next + 1) 5 0 0), (6, .ptr (X1.next + 2) 13 0 0), (7, W32 0#32), (8, .int .i64 0)]) (((((X1.killAll [c]).bump 2).push (⟨T.ty_api_State, 13, true, [[W32 0#32, W32 0#32, W32 0#32, W32 0#32, W32 0#32, W32 0#32, W32 0#32, W32 0#32, W32 0#32, .bool false, .bool false, .bool false, .bool false]]⟩)).set (X1.next + 2) (some (stBlk s07b))).mem (X1.next + 1) X1.next (MemM.new ((l.take n).map busW) 4 [])) =
      some (.exit 2, AFr.al [(0, .rsl 1 (w32s l)), (3, .sl c 1 0 n), (5, .ptr (X1.next + 1) 5 0 0), (6, .ptr (X1.next + 2) 13 0 0), (7, W32 m.bus), (8, .int .i64 n), (53, .bool false)], B.mem (X1.next + 1) X1.next m) := by
    rw [hgo2]
    refine aloop_exit (by simp) ?_
    simp -implicitDefEqProofs +contextual (disch := omega) [busL1, law07_LeakBus.l1]
  have hB := Bus_eq B (X1.next + 1) X1.next m q1 (by omega) (by omega)
  unfold busL0 at hl0
  unfold busL1 at hl1
  simp only [stBlk, es] at hl1
  simp only [w32s, List.map_nil] at hN
  have ht16 : (w16s ((l.take n).map busW)).take n = w16s ((l.take n).map busW) := by rw [w16s_take, List.take_of_length_le (by omega)]
  generalize (l.take n).map busW = cs at *
  simp -implicitDefEqProofs +contextual (disch := try first | omega | (simp only [bump_next, next_killAll, AHeap.next_push, AHeap.next_set]; omega)) [law07_LeakBus.spec, law07_LeakBus, hl0, f0, f3, g1, hcl, ht16, hN, hl1, hB, lives07, memPush, memSet, memGet]
theorem law07_LeakBus_law (args : List AV) (h : ArgsSh [(false, [.sl 1 4 [.int .u32]])] args) : law07_LeakBus.spec args = some (.bool true) := by
  obtain ⟨a, _, rfl, h1, h⟩ := args_one h
  obtain rfl := args_nil h
  obtain ⟨x, rfl, _⟩ := sh_sl32 h1.1
  exact leakBus_law x
end Go.Abs
