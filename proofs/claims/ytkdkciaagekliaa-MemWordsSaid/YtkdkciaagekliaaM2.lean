/-
  The laws of memory, over abstract values.
-/
import Derived.Test.YtkdkciaagekliaaM1
set_option linter.unusedSimpArgs false
set_option linter.unusedVariables false
namespace Go.Abs
theorem lives05 : law05_lives.spec [] = some (.bool true) := by
  obtain ⟨X, x1, x2, hn, _⟩ := new_ex ((AHeap.empty.push { e := T.ty_uint32, sz := 1, flat := true, rows := [[W32 9#32]] }).killAll [0]) [] [9#32] 4 (killAll_wf (AHeap.WF.push AHeap.WF.empty) _) (by simp) (by simp)
  simp only [next_killAll, AHeap.next_push, empty_next, w32s, w16s, List.map_cons, List.map_nil, Nat.zero_add, Nat.reduceAdd] at hn x2
  have h0 := new_ok [] [9#32] 4 (by simp)
  have s1 := Store_eq X 2 1 (MemM.new [] 4 [9#32]) x1 (by omega) (by omega) 536870916#32 7#32 (by omega) h0
  have s2 := Load_eq X 2 1 ((MemM.new [] 4 [9#32]).store 536870916#32 7#32).2 x1 (by omega) (by omega) 536870916#32 (by omega) ⟨by decide, by decide, by decide, by decide⟩
  have s3 := Load_eq X 2 1 (((MemM.new [] 4 [9#32]).store 536870916#32 7#32).2.loads 536870916#32).2 x1 (by omega) (by omega) 1073741824#32 (by omega) ⟨by decide, by decide, by decide, by decide⟩
  have s4 := Bus_eq X 2 1 ((((MemM.new [] 4 [9#32]).store 536870916#32 7#32).2.loads 536870916#32).2.loads 1073741824#32).2 x1 (by omega) (by omega)
  have s5 := Drawn_eq X 2 1 ((((MemM.new [] 4 [9#32]).store 536870916#32 7#32).2.loads 536870916#32).2.loads 1073741824#32).2 x1 (by omega) (by omega)
  rw [show ((MemM.new [] 4 [9#32]).store 536870916#32 7#32).1 = 0 from by decide] at s1
  rw [show (((MemM.new [] 4 [9#32]).store 536870916#32 7#32).2.loads 536870916#32).1 = (7#32, 0) from by decide] at s2
  rw [show ((((MemM.new [] 4 [9#32]).store 536870916#32 7#32).2.loads 536870916#32).2.loads 1073741824#32).1 = (9#32, 0) from by decide] at s3
  rw [show ((((MemM.new [] 4 [9#32]).store 536870916#32 7#32).2.loads 536870916#32).2.loads 1073741824#32).2.bus = 9#32 from by decide] at s4
  rw [show ((((MemM.new [] 4 [9#32]).store 536870916#32 7#32).2.loads 536870916#32).2.loads 1073741824#32).2.drawn = 1 from by decide] at s5
  simp -implicitDefEqProofs +contextual (disch := omega) [law05_lives.spec, law05_lives, hn, s1, s2, s3, s4, s5]

def portM (m : MemM) : Nat → MemM
  | 0 => m
  | k + 1 => ((portM m k).loads 1073741824#32).2
theorem portM_facts (code : List (BitVec 16)) (n : Int) (tape : List (BitVec 32)) (k : Nat) : (portM (MemM.new code n tape) k).tape = tape ∧ (portM (MemM.new code n tape) k).drawn = min k tape.length ∧
    (portM (MemM.new code n tape) k).code = code.take 60000 ∧ (portM (MemM.new code n tape) k).words.length = (min (max n 0) 16000).toNat := by
  induction k with
  | zero => simp [portM, MemM.new]
  | succ k ih =>
    obtain ⟨h1, h2, h3, h4⟩ := ih
    simp only [portM, MemM.loads, MemM.load]
    by_cases h : k < tape.length
    · have : ¬ min k tape.length = tape.length := by omega
      simp [h1, h2, h3, h4, this]; omega
    · have : min k tape.length = tape.length := by omega
      simp [h1, h2, h3, h4, this]; omega
theorem portM_loads (code : List (BitVec 16)) (n : Int) (tape : List (BitVec 32)) (k : Nat) : ((portM (MemM.new code n tape) k).loads 1073741824#32).1 = if k < tape.length then (at0 tape k, 0) else (0#32, 51) := by
  obtain ⟨h1, h2, h3, h4⟩ := portM_facts code n tape k
  simp only [MemM.loads, MemM.load]
  by_cases h : k < tape.length
  · have h5 : ¬ min k tape.length = tape.length := by omega
    have h6 : min k tape.length = k := by omega
    have h7 : ¬ k = tape.length := by omega
    simp [h1, h2, h5, h6, h7, h]
  · have : min k tape.length = tape.length := by omega
    simp [h1, h2, this, h]
theorem portM_bus (code : List (BitVec 16)) (n : Int) (tape : List (BitVec 32)) (k : Nat) (h : k < tape.length) : (portM (MemM.new code n tape) (k + 1)).bus = at0 tape k := by
  obtain ⟨h1, h2, h3, h4⟩ := portM_facts code n tape k
  have h5 : ¬ min k tape.length = tape.length := by omega
  have h6 : min k tape.length = k := by omega
  have h7 : ¬ k = tape.length := by omega
  simp [portM, MemM.loads, MemM.load, h1, h2, h5, h6, h7, h]
theorem portM_ok (code : List (BitVec 16)) (n : Int) (tape : List (BitVec 32)) (k : Nat) (ht : tape.length ≤ 1000000000) : (portM (MemM.new code n tape) k).Ok := by
  obtain ⟨h1, h2, h3, h4⟩ := portM_facts code n tape k
  exact ⟨by rw [h3]; simp; omega, by rw [h4]; omega, by rw [h1]; exact ht, by rw [h1, h2]; omega⟩

theorem memTape_law (tape0 : List (BitVec 32)) (more : BitVec 8) : law05_MemTape.spec [.rsl 1 (w32s tape0), W8 more] = some (.bool true) := by
  have hs := short_eq [] tape0
  simp only [w16s, List.map_nil, List.take_nil] at hs
  generalize hT : tape0.take 100 = tape at hs
  have hl : tape.length ≤ 100 := by rw [← hT]; simp; omega
  obtain ⟨X, x1, x2, hn, _⟩ := new_ex ((((AHeap.empty.push { e := T.ty_uint32, sz := 1, flat := true, rows := [] }).set 0 none).push { e := T.ty_uint32, sz := 1, flat := true, rows := w32s tape }).killAll [1]) [] tape 1
    (killAll_wf (AHeap.WF.push (AHeap.WF.set (AHeap.WF.push AHeap.WF.empty) (by simp))) _) (by simp) (by omega)
  simp only [next_killAll, AHeap.next_push, AHeap.next_set, empty_next, w16s, List.map_nil, Nat.zero_add, Nat.reduceAdd] at hn x2
  have hL : ∀ k : Nat, mem_Mem_Load.spec [.ptr 3 5 0 0, W32 1073741824#32] (X.mem 3 2 (portM (MemM.new [] 1 tape) k)) = some (.tup [W32 (if k < tape.length then (at0 tape k, (0 : Int)) else (0#32, 51)).1, .int .i64 (if k < tape.length then (at0 tape k, (0 : Int)) else (0#32, 51)).2], X.mem 3 2 (portM (MemM.new [] 1 tape) (k + 1))) := fun k => by
    rw [Load_eq X 3 2 _ x1 (by omega) (by omega) _ (by omega) (portM_ok _ _ _ _ (by omega)), portM_loads]; rfl
  have hB : ∀ k : Nat, mem_Mem_Bus.spec [.ptr 3 5 0 0] (X.mem 3 2 (portM (MemM.new [] 1 tape) (k + 1))) = some (W32 (portM (MemM.new [] 1 tape) (k + 1)).bus, X.mem 3 2 (portM (MemM.new [] 1 tape) (k + 1))) := fun k => Bus_eq X 3 2 _ x1 (by omega) (by omega)
  have hD : ∀ k : Nat, mem_Mem_Drawn.spec [.ptr 3 5 0 0] (X.mem 3 2 (portM (MemM.new [] 1 tape) (k + 1))) = some (.int .i64 (min (k + 1) tape.length : Nat), X.mem 3 2 (portM (MemM.new [] 1 tape) (k + 1))) := fun k => by
    rw [Drawn_eq X 3 2 _ x1 (by omega) (by omega), (portM_facts _ _ _ _).2.1]
  have hm : (more % 4#8).toNat = more.toNat % 4 := by simp
  have hgo := aloop_go (f := law05_MemTape.l0 law05_short.spec mem_New.spec mem_Mem_Load.spec mem_Mem_Bus.spec mem_Mem_Drawn.spec law05_lives.spec)
    (fun k => AFr.al [(0, .rsl 1 (w32s tape)), (1, W8 more), (5, .ptr 3 5 0 0), (6, .int .i64 (k : Nat))]) (fun k => X.mem 3 2 (portM (MemM.new [] 1 tape) k)) (tape.length + more.toNat % 4) (fun k hk => by
      by_cases h : k < tape.length
      · have e1 : min (k + 1) tape.length = k + 1 := by omega
        simp -implicitDefEqProofs +contextual (disch := omega) [law05_MemTape.l0, hL, hB, hD, h, e1, hm, portM_bus]
      · have e1 : min (k + 1) tape.length = tape.length := by omega
        simp -implicitDefEqProofs +contextual (disch := omega) [law05_MemTape.l0, hL, hB, hD, h, e1, hm]) 0 (by omega)
  have hx := aloop_exit (f := law05_MemTape.l0 law05_short.spec mem_New.spec mem_Mem_Load.spec mem_Mem_Bus.spec mem_Mem_Drawn.spec law05_lives.spec)
    (fr := AFr.al [(0, .rsl 1 (w32s tape)), (1, W8 more), (5, .ptr 3 5 0 0), (6, .int .i64 ((tape.length + more.toNat % 4 : Nat) : Int))])
    (H := X.mem 3 2 (portM (MemM.new [] 1 tape) (tape.length + more.toNat % 4))) (e := .exit 0)
    (fr' := AFr.al [(0, .rsl 1 (w32s tape)), (1, W8 more), (5, .ptr 3 5 0 0), (6, .int .i64 ((tape.length + more.toNat % 4 : Nat) : Int)), (27, .bool false)]) (H' := X.mem 3 2 (portM (MemM.new [] 1 tape) (tape.length + more.toNat % 4))) (by simp)
    (by simp -implicitDefEqProofs +contextual (disch := omega) [law05_MemTape.l0, hm])
  rw [hx] at hgo
  simp only [portM] at hgo
  rw [show ((0 : Nat) : Int) = 0 from rfl] at hgo
  simp -implicitDefEqProofs +contextual (disch := omega) [law05_MemTape.spec, law05_MemTape, hs, hn, lives05, hgo]
theorem law05_MemTape_law (args : List AV) (h : ArgsSh [(false, [.sl 1 4 [.int .u32]]), (false, [.int .u8])] args) : law05_MemTape.spec args = some (.bool true) := by
  match args, h with
  | [a, b], ⟨h1, h2, _⟩ =>
    obtain ⟨l, rfl, _⟩ := sh_sl32 h1.1
    obtain ⟨x, rfl⟩ := sh_u8 h2.1
    exact memTape_law l x
end Go.Abs
