/-
  The law of any code, step by step: the whole.
-/
import Derived.Test.YtncablokgkejjaaC10
set_option linter.unusedSimpArgs false
set_option linter.unusedVariables false
namespace Go.Abs
open Th
theorem runs_ready (s : StM) (code : List (BitVec 16)) (tape : List (BitVec 32)) (hc : code.length ≤ 60) (ht : tape.length ≤ 30) (H : AHeap) (hw : H.WF) (hn : 1 ≤ H.next) (hg : H.get 0 = some (stBlk s)) :
    ∃ (B : AHeap) (I : Ids) (X : AHeap) (m : MemM), mem_New.spec [.rsl 1 (w16s code), .int .i64 4, .rsl 1 (w32s tape)] H = some (.ptr I.b 5 0 0, X) ∧
      ref05_New.spec [.rsl 1 (w16s code), .int .i64 4, .rsl 1 (w32s tape)] X = some (.ptr I.rb 5 0 0, B.two I m m) ∧ Apart I 0 ∧ B.get 0 = some (stBlk s) ∧
      ∃ e fr' X', aloop runsL (AFr.al [(4, .ptr 0 13 0 0), (7, .ptr I.b 5 0 0), (8, .ptr I.rb 5 0 0), (9, .int .i64 0)]) ((B.set 0 (some (stBlk (s.setPC 0#32)))).two I m m) = some (e, fr', X') ∧
        ((e = .ret ∧ fr' = AFr.al [(6, .bool true)]) ∨ e = .exit 0) := by
  obtain ⟨B, I, X, n1, n2, ok, b0, b1, b2, b3, b4, b5, b6, b7⟩ := two_ex H code tape 4 hw (by omega) (by omega)
  have hok := new_ok code tape 4 (by omega)
  have hwd : (MemM.new code 4 tape).words.length = 4 := by simp only [MemM.new, List.length_replicate]; decide
  have ha : Apart I 0 := ⟨by omega, by omega, by omega, by omega, by omega, by omega⟩
  refine ⟨B, I, X, _, n1, n2, ha, (b7 0 (by omega)).trans hg, ?_⟩
  generalize MemM.new code 4 tape = m at ok hok hwd
  have ok2 : TwoOk (B.set 0 (some (stBlk (s.setPC 0#32)))) I m := by
    refine ok.but 0 ha.cb ha.tb (AHeap.WF.set ok.wf (by omega)) (by simp) ?_
    intro c h1 h2
    simp [h2]
  obtain ⟨e, fr', X', h1, h2⟩ := aloop_down (f := runsL) (fun d fr X => ∃ (B : AHeap) (s : StM) (m : MemM) (k : Nat), d + k = 80 ∧ fr = AFr.al [(4, .ptr 0 13 0 0), (7, .ptr I.b 5 0 0), (8, .ptr I.rb 5 0 0), (9, .int .i64 (k : Nat))] ∧ X = B.two I m m ∧ TwoOk B I m ∧ m.Ok ∧ m.words.length = 4 ∧ B.get 0 = some (stBlk s))
    (fun e fr X => (e = .ret ∧ fr = AFr.al [(6, .bool true)]) ∨ e = .exit 0) (fun d fr X hR => by
      obtain ⟨B, s, m, k, hk, rfl, rfl, r1, r2, r3, r4⟩ := hR
      by_cases h : k < 80
      · rcases runs_step B I s m k h r1 r2 r3 r4 ha with ⟨_, X', h1⟩ | ⟨B', h1, h2, h3⟩
        · exact ⟨_, _, _, h1, .inr ⟨by simp, .inl ⟨rfl, rfl⟩⟩⟩
        · refine ⟨_, _, _, h1, .inl ⟨rfl, d - 1, by omega, B', _, _, k + 1, by omega, rfl, rfl, h2, (keeps_step s m).ok r2, ?_, h3⟩⟩
          rw [(keeps_step s m).words]; exact r3
      · obtain rfl : k = 80 := by omega
        refine ⟨.exit 0, ?_, B.two I m m, ?_, .inr ⟨by simp, .inr rfl⟩⟩
        rotate_left
        · simp -implicitDefEqProofs +contextual (disch := omega) [runsL, law06_CoreRuns.l0]
          rfl) 80 (AFr.al [(4, .ptr 0 13 0 0), (7, .ptr I.b 5 0 0), (8, .ptr I.rb 5 0 0), (9, .int .i64 (0 : Nat))]) ((B.set 0 (some (stBlk (s.setPC 0#32)))).two I m m)
      ⟨_, (s.setPC 0#32), m, 0, rfl, rfl, rfl, ok2, hok, hwd, by simp⟩
  exact ⟨e, fr', X', h1, h2⟩
theorem coreRuns_law (code : List (BitVec 16)) (s : StM) (tape : List (BitVec 32)) : law06_CoreRuns.spec [.rsl 1 (w16s code), .agg s.cells, .rsl 1 (w32s tape)] = some (.bool true) := by
  have hw : ∀ (xs : List (BitVec 16)) (ys : List (BitVec 32)), ((((((((AHeap.empty.push { e := T.ty_api_State, sz := 13, flat := true, rows := [s.cells] }).push { e := T.ty_uint16, sz := 1, flat := true, rows := [] }).set 1 none).push { e := T.ty_uint16, sz := 1, flat := true, rows := w16s xs }).push { e := T.ty_uint32, sz := 1, flat := true, rows := [] }).set 3 none).push { e := T.ty_uint32, sz := 1, flat := true, rows := w32s ys }).killAll [2, 4]).WF := fun xs ys =>
    killAll_wf (AHeap.WF.push (AHeap.WF.set (AHeap.WF.push (AHeap.WF.push (AHeap.WF.set (AHeap.WF.push (AHeap.WF.push AHeap.WF.empty)) (by simp)))) (by simp))) _
  obtain ⟨B, I, X, m, n1, n2, ha, hg, e, fr', X', hl, he⟩ := runs_ready s (code.take 60) (tape.take 30) (by simp; omega) (by simp; omega) _ (hw (code.take 60) (tape.take 30)) (by simp [next_killAll]) (by simp [stBlk])
  have a1 := ha.b; have a2 := ha.wb; have a3 := ha.rb; have a4 := ha.rw
  have hs0 : (stBlk s).rows.head? = some s.cells := rfl
  simp only [stBlk] at hg hl
  unfold runsL at hl
  by_cases h1 : 60 < (code.length : Int) <;> by_cases h2 : 30 < (tape.length : Int)
  all_goals
    try simp (disch := omega) only [List.take_of_length_le] at n1 n2
    rcases he with ⟨rfl, rfl⟩ | rfl
    all_goals
      simp -implicitDefEqProofs +contextual (disch := omega) [law06_CoreRuns.spec, law06_CoreRuns, h1, h2, w32s_take, w16s_take, List.take_take, n1, n2, twoGet, twoSet, hg, hl, lives06]
theorem law06_CoreRuns_law (args : List AV) (h : ArgsSh [(false, [.sl 1 2 [.int .u16]]), (true, [.int .u32, .int .u32, .int .u32, .int .u32, .int .u32, .int .u32, .int .u32, .int .u32, .int .u32, .bool, .bool, .bool, .bool]), (false, [.sl 1 4 [.int .u32]])] args) : law06_CoreRuns.spec args = some (.bool true) := by
  obtain ⟨a, _, rfl, h1, h⟩ := args_one h
  obtain ⟨b, _, rfl, h2, h⟩ := args_agg h
  obtain ⟨c, _, rfl, h3, h⟩ := args_one h
  obtain rfl := args_nil h
  obtain ⟨x, rfl, _⟩ := sh_sl16 h1.1
  obtain ⟨s, rfl⟩ := sh_state h2
  obtain ⟨y, rfl, _⟩ := sh_sl32 h3.1
  exact coreRuns_law x s y
end Go.Abs
