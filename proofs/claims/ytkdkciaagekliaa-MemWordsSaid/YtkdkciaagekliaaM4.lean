/-
  The law of the words, over abstract values.
-/
import Derived.Test.YtkdkciaagekliaaM3
set_option linter.unusedSimpArgs false
set_option linter.unusedVariables false
namespace Go.Abs
theorem at0_rep {n : Nat} (k i : Nat) : at0 (List.replicate k 0#n) i = 0#n := by
  simp only [at0, List.getD_eq_getElem?_getD, List.getElem?_replicate]; split <;> rfl
set_option maxHeartbeats 1600000 in
theorem memWords_law (words i : Int) (w : BitVec 32) (hw : I64 words) (hi : I64 i) : law05_MemWords.spec [.int .i64 words, .int .i64 i, W32 w] = some (.bool true) := by
  obtain ⟨X, x1, x2, hn, _⟩ := new_ex AHeap.empty [] [] words AHeap.WF.empty (by simp) (by simp)
  simp only [empty_next, w32s, w16s, List.map_nil, Nat.zero_add] at hn x2
  obtain ⟨N, hN⟩ : ∃ N : Nat, (min (max words 0) 16000).toNat = N := ⟨_, rfl⟩
  have hm : MemM.new [] words [] = ⟨[], List.replicate N 0#32, [], 0, 0#32⟩ := by simp [MemM.new, hN]
  rw [hm] at hn
  obtain ⟨hi1, hi2⟩ := hi
  obtain ⟨hw1, hw2⟩ := hw
  have hN' : N ≤ 16000 := by omega
  obtain ⟨y, hx0, hy1, hy2⟩ : ∃ y : Nat, abinR .x .and (.int .i64 i) (.int .i64 16383) = some (.int .i64 (y : Int)) ∧ y < 16384 ∧ (0 ≤ i → i ≤ 16000 → y = i.toNat) := by
    have h0 : (BitVec.ofInt 64 i &&& BitVec.ofInt 64 16383).toNat = (BitVec.ofInt 64 i).toNat % 16384 := by
      rw [BitVec.toNat_and, show (BitVec.ofInt 64 16383).toNat = 2 ^ 14 - 1 from by decide, Nat.and_two_pow_sub_one_eq_mod]
    have h1 : (BitVec.ofInt 64 i).toNat % 16384 < 16384 := Nat.mod_lt _ (by decide)
    refine ⟨(BitVec.ofInt 64 i).toNat % 16384, ?_, h1, ?_⟩
    · rw [bin_and, show IntKind.bits .i64 = 64 from rfl, h0, IntWalk.i64_in _ (by omega)]
    · intro q1 q2
      rw [BitVec.toNat_ofInt]; omega
  obtain ⟨x, hx⟩ : ∃ x, BitVec.ofNat 32 y = x := ⟨_, rfl⟩
  have hx1 : x.toNat < 16384 := by rw [← hx, BitVec.toNat_ofNat]; omega
  have hx2 : 0 ≤ i → i ≤ 16000 → x.toNat = i.toNat := fun q1 q2 => by rw [← hx, BitVec.toNat_ofNat, hy2 q1 q2]; omega
  have ha : (536870912#32 + 4#32 * x).toNat = 536870912 + 4 * x.toNat := by
    rw [BitVec.toNat_add, BitVec.toNat_mul]; simp; try omega
  have hsl : wslot (536870912#32 + 4#32 * x) = x.toNat := by
    unfold wslot; rw [BitVec.toNat_sub, ha]; simp; try omega
  generalize hA : 536870912#32 + 4#32 * x = a at ha hsl
  have e4 : a % 4#32 = 0#32 := by apply BitVec.eq_of_toNat_eq; rw [BitVec.toNat_umod, ha]; simp; try omega
  have ep : a ≠ 1073741824#32 := by intro e; rw [e] at ha; simp at ha; omega
  have ele : 536870912#32 ≤ a := by rw [BitVec.le_def, ha]; simp
  have hat : ∀ ws : List (BitVec 32), (MemM.mk [] ws [] 0 0#32).at a = decide (x.toNat < ws.length) := fun ws => by simp [MemM.at, ele, hsl]
  have hok : ∀ ws : List (BitVec 32), ws.length = N → ∀ b, (MemM.mk [] ws [] 0 b).Ok := fun ws h b => ⟨by simp, by dsimp only; omega, by simp, by simp⟩
  have hW := Words_eq X 1 0 ⟨[], List.replicate N 0#32, [], 0, 0#32⟩ x1 (by omega) (by omega) (by omega) (by simp; omega)
  have hS := Set_eq X 1 0 ⟨[], List.replicate N 0#32, [], 0, 0#32⟩ x1 (by omega) (by omega) i w (by omega)
  have hR := fun m => Word_eq X 1 0 m x1 (by omega) (by omega) i (by omega)
  have hL := fun m (h : MemM.Ok m) => Load_eq X 1 0 m x1 (by omega) (by omega) a (by omega) h
  have hD := fun m => Drawn_eq X 1 0 m x1 (by omega) (by omega)
  have hgo := aloop_go (f := law05_MemWords.l0 mem_New.spec mem_Mem_Words.spec mem_Mem_Set.spec mem_Mem_Word.spec mem_Mem_Load.spec mem_Mem_Drawn.spec law05_lives.spec)
    (fun k => AFr.al [(1, .int .i64 i), (2, W32 w), (7, .ptr 1 5 0 0), (8, .int .i64 N), (9, .rsl 1 (w32s (List.replicate N 0#32))), (10, .int .i64 (k : Nat))]) (fun k => X.mem 1 0 ⟨[], List.replicate N 0#32, [], 0, 0#32⟩) N (fun k hk => by
      simp -implicitDefEqProofs +contextual (disch := omega) [law05_MemWords.l0, at0_rep]) 0 (by omega)
  have hxx := aloop_exit (f := law05_MemWords.l0 mem_New.spec mem_Mem_Words.spec mem_Mem_Set.spec mem_Mem_Word.spec mem_Mem_Load.spec mem_Mem_Drawn.spec law05_lives.spec)
    (fr := AFr.al [(1, .int .i64 i), (2, W32 w), (7, .ptr 1 5 0 0), (8, .int .i64 N), (9, .rsl 1 (w32s (List.replicate N 0#32))), (10, .int .i64 (N : Nat))])
    (H := X.mem 1 0 ⟨[], List.replicate N 0#32, [], 0, 0#32⟩) (e := .exit 0)
    (fr' := AFr.al [(1, .int .i64 i), (2, W32 w), (7, .ptr 1 5 0 0), (8, .int .i64 N), (9, .rsl 1 (w32s (List.replicate N 0#32))), (10, .int .i64 (N : Nat)), (33, .bool false)]) (H' := X.mem 1 0 ⟨[], List.replicate N 0#32, [], 0, 0#32⟩) (by simp)
    (by simp -implicitDefEqProofs +contextual (disch := omega) [law05_MemWords.l0])
  rw [hxx] at hgo
  rw [show ((0 : Nat) : Int) = 0 from rfl] at hgo
  have hgo0 : ∀ z : Int, z = (N : Int) → aloop (law05_MemWords.l0 mem_New.spec mem_Mem_Words.spec mem_Mem_Set.spec mem_Mem_Word.spec mem_Mem_Load.spec mem_Mem_Drawn.spec law05_lives.spec)
      (AFr.al [(1, .int .i64 i), (2, W32 w), (7, .ptr 1 5 0 0), (8, .int .i64 z), (9, .rsl 1 (w32s (List.replicate N 0#32))), (10, .int .i64 0)]) (X.mem 1 0 ⟨[], List.replicate N 0#32, [], 0, 0#32⟩) =
      some (.exit 0, AFr.al [(1, .int .i64 i), (2, W32 w), (7, .ptr 1 5 0 0), (8, .int .i64 z), (9, .rsl 1 (w32s (List.replicate N 0#32))), (10, .int .i64 (N : Nat)), (33, .bool false)], X.mem 1 0 ⟨[], List.replicate N 0#32, [], 0, 0#32⟩) := by
    rintro z rfl; exact hgo
  clear hgo hxx
  by_cases hA1 : 0 ≤ i ∧ i < N
  · have h5 : i.toNat < N := by omega
    have h6 : x.toNat = i.toNat := hx2 hA1.1 (by omega)
    have s1 : (MemM.mk [] (List.replicate N 0#32) [] 0 0#32).sets i w = (true, ⟨[], (List.replicate N 0#32).set i.toNat w, [], 0, 0#32⟩) := by simp [MemM.sets, MemM.there, hA1]
    have s2 : (MemM.mk [] ((List.replicate N 0#32).set i.toNat w) [] 0 0#32).word i = (w, true) := by
      simp [MemM.word, MemM.there, hA1, at0, List.getElem?_set, h5]
    have s3 : (MemM.mk [] ((List.replicate N 0#32).set i.toNat w) [] 0 0#32).loads a = ((w, 0), ⟨[], (List.replicate N 0#32).set i.toNat w, [], 0, w⟩) := by
      simp [MemM.loads, MemM.load, e4, ep, hat, hsl, h6, at0, List.getElem?_set, h5]
    rw [s1] at hS
    have r2 := hR ⟨[], (List.replicate N 0#32).set i.toNat w, [], 0, 0#32⟩
    have r3 := hL _ (hok ((List.replicate N 0#32).set i.toNat w) (by simp) 0#32)
    have r4 := hD ⟨[], (List.replicate N 0#32).set i.toNat w, [], 0, w⟩
    rw [s2] at r2
    rw [s3] at r3
    clear hR hL hD
    by_cases hc : words < 0
    · omega
    · by_cases hc' : 16000 < words
      · simp -implicitDefEqProofs +contextual (disch := omega) [law05_MemWords.spec, law05_MemWords, hn, hW, hS, r2, r3, r4, hgo0, hx0, hx, hA, lives05, hc, hc']
      · simp -implicitDefEqProofs +contextual (disch := omega) [law05_MemWords.spec, law05_MemWords, hn, hW, hS, r2, r3, r4, hgo0, hx0, hx, hA, lives05, hc, hc']
  · have s0 : (MemM.mk [] (List.replicate N 0#32) [] 0 0#32).there i = false := by simp [MemM.there]; omega
    have s1 : (MemM.mk [] (List.replicate N 0#32) [] 0 0#32).sets i w = (false, ⟨[], List.replicate N 0#32, [], 0, 0#32⟩) := by simp [MemM.sets, s0]
    have s2 : (MemM.mk [] (List.replicate N 0#32) [] 0 0#32).word i = (0#32, false) := by simp [MemM.word, s0]
    obtain ⟨e, s3, s4⟩ : ∃ e, (MemM.mk [] (List.replicate N 0#32) [] 0 0#32).loads a = ((0#32, e), ⟨[], List.replicate N 0#32, [], 0, 0#32⟩) ∧ (0 ≤ i → i ≤ 16000 → e = 50) := by
      by_cases h7 : x.toNat < N
      · exact ⟨0, by simp [MemM.loads, MemM.load, e4, ep, hat, h7, hsl, at0_rep], fun q1 q2 => by have := hx2 q1 q2; omega⟩
      · exact ⟨50, by simp [MemM.loads, MemM.load, e4, ep, hat, h7], fun _ _ => rfl⟩
    rw [s1] at hS
    have r2 := hR ⟨[], List.replicate N 0#32, [], 0, 0#32⟩
    have r3 := hL _ (hok (List.replicate N 0#32) (by simp) 0#32)
    have r4 := hD ⟨[], List.replicate N 0#32, [], 0, 0#32⟩
    rw [s2] at r2
    rw [s3] at r3
    clear hR hL hD
    by_cases q1 : i < 0
    · by_cases hc : words < 0 <;> by_cases hc' : 16000 < words
      all_goals first | (exfalso; omega) | simp -implicitDefEqProofs +contextual (disch := omega) [law05_MemWords.spec, law05_MemWords, hn, hW, hS, r2, r3, r4, hgo0, hx0, hx, hA, lives05, hc, hc', q1]
    · by_cases q2 : 16000 < i
      · by_cases hc : words < 0 <;> by_cases hc' : 16000 < words
        all_goals first | (exfalso; omega) | simp -implicitDefEqProofs +contextual (disch := omega) [law05_MemWords.spec, law05_MemWords, hn, hW, hS, r2, r3, r4, hgo0, hx0, hx, hA, lives05, hc, hc', q1, q2]
      · obtain rfl := s4 (by omega) (by omega)
        by_cases hc : words < 0 <;> by_cases hc' : 16000 < words
        all_goals first | (exfalso; omega) | simp -implicitDefEqProofs +contextual (disch := omega) [law05_MemWords.spec, law05_MemWords, hn, hW, hS, r2, r3, r4, hgo0, hx0, hx, hA, lives05, hc, hc', q1, q2]
theorem law05_MemWords_law (args : List AV) (h : ArgsSh [(false, [.int .i64]), (false, [.int .i64]), (false, [.int .u32])] args) : law05_MemWords.spec args = some (.bool true) := by
  obtain ⟨a, _, rfl, h1, h⟩ := args_one h
  obtain ⟨b, _, rfl, h2, h⟩ := args_one h
  obtain ⟨c, _, rfl, h3, h⟩ := args_one h
  obtain rfl := args_nil h
  obtain ⟨x, rfl, hx⟩ := sh_i64 h1.1
  obtain ⟨y, rfl, hy⟩ := sh_i64 h2.1
  obtain ⟨z, rfl⟩ := sh_u32 h3.1
  exact memWords_law x y z hx hy
end Go.Abs
