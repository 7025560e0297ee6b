/-
  The law of what memory owns, over abstract values.
-/
import Derived.Test.YtkdkciaagekliaaM6
set_option linter.unusedSimpArgs false
set_option linter.unusedVariables false
namespace Go.Abs
theorem bump_get (H : AHeap) (n c : Nat) : (H.bump n).get c = H.get c := rfl
theorem mem_push (B : AHeap) (b wb : Nat) (m : MemM) (x : Blk) (hb : b < B.next) (hwb : wb < B.next) : (B.mem b wb m).push x = (B.push x).mem b wb m := by
  refine mem_of _ _ _ _ _ rfl fun c => ?_
  rw [AHeap.get_push, mem_get, mem_next, AHeap.get_push]
  by_cases e : c = B.next
  · subst e; rw [if_pos rfl, if_neg (by omega), if_neg (by omega), if_pos rfl]
  · rw [if_neg e, if_neg e]
theorem mem_set (B : AHeap) (b wb c : Nat) (m : MemM) (x : Option Blk) (hb : c ≠ b) (hwb : c ≠ wb) : (B.mem b wb m).set c x = (B.set c x).mem b wb m := by
  refine mem_of _ _ _ _ _ rfl fun d => ?_
  rw [AHeap.get_set, mem_get, AHeap.get_set]
  by_cases e : d = c
  · subst e; rw [if_pos rfl, if_neg hb, if_neg hwb, if_pos rfl]
  · rw [if_neg e, if_neg e]
theorem short_ref_eq (code : List (BitVec 16)) (tape : List (BitVec 32)) : ∃ X : AHeap, X.WF ∧ X.next = 4 ∧ X.get 1 = some ⟨T.ty_uint16, 1, true, w16s (code.take 300)⟩ ∧ X.get 3 = some ⟨T.ty_uint32, 1, true, w32s (tape.take 100)⟩ ∧
    law05_short_ref.spec [.rsl 1 (w16s code), .rsl 1 (w32s tape)] AHeap.empty = some (.tup [.sl 1 1 0 (code.take 300).length, .sl 3 1 0 (tape.take 100).length], X) := by
  refine ⟨((((((AHeap.empty.push ⟨T.ty_uint16, 1, true, []⟩).set 0 none).push ⟨T.ty_uint16, 1, true, w16s (code.take 300)⟩).push ⟨T.ty_uint32, 1, true, []⟩).set 2 none).push ⟨T.ty_uint32, 1, true, w32s (tape.take 100)⟩), ?_, rfl, by simp, by simp, ?_⟩
  · exact AHeap.WF.push (AHeap.WF.set (AHeap.WF.push (AHeap.WF.push (AHeap.WF.set (AHeap.WF.push AHeap.WF.empty) (by simp)))) (by simp))
  · by_cases h1 : 300 < (code.length : Int) <;> by_cases h2 : 100 < (tape.length : Int)
    all_goals
      simp -implicitDefEqProofs (disch := omega) [law05_short_ref.spec, law05_short_ref, h1, h2, w32s_take, w16s_take, List.take_take, List.take_of_length_le, Nat.min_eq_left, Nat.min_eq_right]
theorem new_refn_eq (H : AHeap) (code : List (BitVec 16)) (tape : List (BitVec 32)) (n : Int) (cb tb : Nat) (hc : code.length ≤ 60000) (ht : tape.length ≤ 1000000000) (hcb : H.get cb = some ⟨T.ty_uint16, 1, true, w16s code⟩) (htb : H.get tb = some ⟨T.ty_uint32, 1, true, w32s tape⟩)
    (h1 : cb < H.next) (h2 : tb < H.next) :
    mem_New_refn.spec [.sl cb 1 0 code.length, .int .i64 n, .sl tb 1 0 tape.length] H = some (.ptr (H.next + 1) 5 0 0, (H.bump 2).mem (H.next + 1) H.next (MemM.new code n tape)) := by
  have e1 : min (code.length : Int) 60000 = code.length := by omega
  simp -implicitDefEqProofs (disch := omega) [mem_New_refn.spec, mem_New_refn, hcb, htb, e1, clone16 code (by omega), clone32 tape ht, w16s_take]
  refine mem_of _ _ _ _ _ rfl fun c => ?_
  simp only [AHeap.get_push, AHeap.next_push]
  by_cases h1 : c = H.next + 1
  · simp [h1, memBlk, MemM.new, List.take_of_length_le hc]
  · by_cases h2 : c = H.next
    · simp [h1, h2, wrdBlk, MemM.new, w32s_rep]
    · simp [h1, h2, AHeap.bump]
theorem words_ref_eq (H : AHeap) (b wb : Nat) (m : MemM) (hb : b < H.next) (hwb : wb < H.next) (hbw : b ≠ wb) (hm : m.words.length ≤ 16000) :
    mem_Mem_Words_ref.spec [.ptr b 5 0 0] (H.mem b wb m) = some (.sl (H.next + 1) 1 0 m.words.length, ((((H.push ⟨T.ty_uint32, 1, true, []⟩).set H.next none).push ⟨T.ty_uint32, 1, true, w32s m.words⟩)).mem b wb m) := by
  have hc : slices_Clone_uint32_refn.spec [.sl wb 1 0 m.words.length] (H.mem b wb m) = some (.sl (H.next + 1) 1 0 m.words.length, ((((H.push ⟨T.ty_uint32, 1, true, []⟩).set H.next none).push ⟨T.ty_uint32, 1, true, w32s m.words⟩)).mem b wb m) := by
    simp -implicitDefEqProofs (disch := omega) [slices_Clone_uint32_refn.spec, slices_Clone_uint32_refn, mem_get, wrdBlk, mem_push, mem_set, hbw.symm]
    exact mem_push _ _ _ _ _ (by simp; omega) (by simp; omega)
  simp -implicitDefEqProofs (disch := omega) [mem_Mem_Words_ref.spec, mem_Mem_Words_ref, mem_get, memBlk, hc]
theorem memOwn_law (code0 : List (BitVec 16)) (tape0 : List (BitVec 32)) (w : BitVec 32) : law05_MemOwn.spec [.rsl 1 (w16s code0), .rsl 1 (w32s tape0), W32 w] = some (.bool true) := by
  obtain ⟨X, x1, x2, x3, x4, hs⟩ := short_ref_eq code0 tape0
  generalize hC : code0.take 300 = code at hs x3
  generalize hT : tape0.take 100 = tape at hs x4
  have hlc : code.length ≤ 300 := by rw [← hC]; simp; omega
  have hlt : tape.length ≤ 100 := by rw [← hT]; simp; omega
  have hn := new_refn_eq X code tape 2 1 3 (by omega) (by omega) x3 x4 (by omega) (by omega)
  rw [x2] at hn
  have hm : MemM.new code 2 tape = ⟨code, [0#32, 0#32], tape, 0, 0#32⟩ := by
    simp only [MemM.new, List.take_of_length_le (show code.length ≤ 60000 by omega)]; rfl
  rw [hm] at hn
  have hok : ∀ ws : List (BitVec 32), ws.length = 2 → (MemM.mk code ws tape 0 0#32).Ok := fun ws h => ⟨by dsimp only; omega, by dsimp only; omega, by dsimp only; omega, by simp⟩
  have hS := Set_eq (X.bump 2) 5 4 ⟨code, [0#32, 0#32], tape, 0, 0#32⟩ (bump_wf x1 2) (by simp; omega) (by simp; omega) 0 w (by omega)
  have s1 : (MemM.mk code [0#32, 0#32] tape 0 0#32).sets 0 w = (true, ⟨code, [w, 0#32], tape, 0, 0#32⟩) := by simp [MemM.sets, MemM.there]
  rw [s1] at hS
  dsimp only at hS
  generalize hm1 : MemM.mk code [w, 0#32] tape 0 0#32 = m1 at hS
  have hok1 : m1.Ok := by rw [← hm1]; exact hok _ rfl
  have wl : m1.words = [w, 0#32] := by rw [← hm1]
  have key : ∀ B : AHeap, B.WF → B.next = 6 → ∃ B2 B3 : AHeap, mem_Mem_Words_ref.spec [.ptr 5 5 0 0] (B.mem 5 4 m1) = some (.sl 7 1 0 2, B2.mem 5 4 m1) ∧ B2.get 7 = some ⟨T.ty_uint32, 1, true, [[W32 w], [W32 0#32]]⟩ ∧
      B2.set 7 (some ⟨T.ty_uint32, 1, true, [[W32 (w + 1#32)], [W32 0#32]]⟩) = B3 ∧ mem_Mem_Fetch.spec [.ptr 5 5 0 0, W32 0#32] (B3.mem 5 4 m1) = some (.tup [W16 (m1.fetch 0#32).1, .int .i64 (m1.fetch 0#32).2], B3.mem 5 4 m1) ∧
      mem_Mem_Load.spec [.ptr 5 5 0 0, W32 1073741824#32] (B3.mem 5 4 m1) = some (.tup [W32 (m1.loads 1073741824#32).1.1, .int .i64 (m1.loads 1073741824#32).1.2], B3.mem 5 4 (m1.loads 1073741824#32).2) ∧
      mem_Mem_Word.spec [.ptr 5 5 0 0, .int .i64 0] (B3.mem 5 4 (m1.loads 1073741824#32).2) = some (.tup [W32 w, .bool true], B3.mem 5 4 (m1.loads 1073741824#32).2) := by
    intro B h1 h2
    have hw := words_ref_eq B 5 4 m1 (by omega) (by omega) (by omega) (by rw [wl]; simp)
    rw [h2, wl] at hw
    have w2 : (((B.push ⟨T.ty_uint32, 1, true, []⟩).set 6 none).push ⟨T.ty_uint32, 1, true, w32s [w, 0#32]⟩).WF := AHeap.WF.push (AHeap.WF.set (AHeap.WF.push h1) (by simp; omega))
    have w3 : ((((B.push ⟨T.ty_uint32, 1, true, []⟩).set 6 none).push ⟨T.ty_uint32, 1, true, w32s [w, 0#32]⟩).set 7 (some ⟨T.ty_uint32, 1, true, [[W32 (w + 1#32)], [W32 0#32]]⟩)).WF := AHeap.WF.set w2 (by simp; omega)
    have hr := Word_eq ((((B.push ⟨T.ty_uint32, 1, true, []⟩).set 6 none).push ⟨T.ty_uint32, 1, true, w32s [w, 0#32]⟩).set 7 (some ⟨T.ty_uint32, 1, true, [[W32 (w + 1#32)], [W32 0#32]]⟩)) 5 4 (m1.loads 1073741824#32).2 w3 (by simp; omega) (by simp; omega) 0 (by omega)
    have e1 : (m1.loads 1073741824#32).2.word 0 = (w, true) := by
      unfold MemM.word MemM.there
      rw [(loads_keep m1 _).2.2, wl]; simp [at0]
    rw [e1] at hr
    exact ⟨_, _, hw, by simp [h2, w32s], rfl, Fetch_eq _ 5 4 m1 w3 (by simp; omega) (by simp; omega) 0#32 hok1, Load_eq _ 5 4 m1 w3 (by simp; omega) (by simp; omega) _ (by omega) hok1, hr⟩
  have ef : m1.fetch 0#32 = if 0 < code.length then (at0 code 0, 0) else (0#16, 50) := by rw [← hm1]; simp [MemM.fetch]
  have el : (m1.loads 1073741824#32).1 = if 0 < tape.length then (at0 tape 0, 0) else (0#32, 51) := by
    rw [← hm1]
    by_cases h : 0 < tape.length
    · have : 0 ≠ tape.length := by omega
      simp [MemM.loads, MemM.load, h, this]
    · have : tape.length = 0 := by omega
      simp [MemM.loads, MemM.load, this]
  by_cases hc : 0 < code.length
  · by_cases ht : 0 < tape.length
    · obtain ⟨B2, B3, k1, k2, k3, k4, k5, k6⟩ := key (((X.bump 2).set 1 (some ⟨T.ty_uint16, 1, true, w16s (code.set 0 (at0 code 0 + 1#16))⟩)).set 3 (some ⟨T.ty_uint32, 1, true, w32s (tape.set 0 (at0 tape 0 + 1#32))⟩)) (AHeap.WF.set (AHeap.WF.set (bump_wf x1 2) (by simp <;> omega)) (by simp <;> omega)) (by simp [x2])
      rw [ef, if_pos hc] at k4
      rw [el, if_pos ht] at k5
      simp -implicitDefEqProofs +contextual (disch := omega) [law05_MemOwn.spec, law05_MemOwn, hs, hn, hS, hc, ht, mem_get, mem_set, bump_get, x3, x4, k1, k2, k3, k4, k5, k6, lives05]
    · obtain ⟨B2, B3, k1, k2, k3, k4, k5, k6⟩ := key ((X.bump 2).set 1 (some ⟨T.ty_uint16, 1, true, w16s (code.set 0 (at0 code 0 + 1#16))⟩)) (AHeap.WF.set (bump_wf x1 2) (by simp <;> omega)) (by simp [x2])
      rw [ef, if_pos hc] at k4
      rw [el, if_neg ht] at k5
      simp -implicitDefEqProofs +contextual (disch := omega) [law05_MemOwn.spec, law05_MemOwn, hs, hn, hS, hc, ht, mem_get, mem_set, bump_get, x3, x4, k1, k2, k3, k4, k5, k6, lives05]
  · by_cases ht : 0 < tape.length
    · obtain ⟨B2, B3, k1, k2, k3, k4, k5, k6⟩ := key ((X.bump 2).set 3 (some ⟨T.ty_uint32, 1, true, w32s (tape.set 0 (at0 tape 0 + 1#32))⟩)) (AHeap.WF.set (bump_wf x1 2) (by simp <;> omega)) (by simp [x2])
      rw [ef, if_neg hc] at k4
      rw [el, if_pos ht] at k5
      simp -implicitDefEqProofs +contextual (disch := omega) [law05_MemOwn.spec, law05_MemOwn, hs, hn, hS, hc, ht, mem_get, mem_set, bump_get, x3, x4, k1, k2, k3, k4, k5, k6, lives05]
    · obtain ⟨B2, B3, k1, k2, k3, k4, k5, k6⟩ := key (X.bump 2) (bump_wf x1 2) (by simp [x2])
      rw [ef, if_neg hc] at k4
      rw [el, if_neg ht] at k5
      simp -implicitDefEqProofs +contextual (disch := omega) [law05_MemOwn.spec, law05_MemOwn, hs, hn, hS, hc, ht, mem_get, mem_set, bump_get, x3, x4, k1, k2, k3, k4, k5, k6, lives05]
theorem law05_MemOwn_law (args : List AV) (h : ArgsSh [(false, [.sl 1 2 [.int .u16]]), (false, [.sl 1 4 [.int .u32]]), (false, [.int .u32])] args) : law05_MemOwn.spec args = some (.bool true) := by
  obtain ⟨a, _, rfl, h1, h⟩ := args_one h
  obtain ⟨b, _, rfl, h2, h⟩ := args_one h
  obtain ⟨c, _, rfl, h3, h⟩ := args_one h
  obtain rfl := args_nil h
  obtain ⟨x, rfl, hx⟩ := sh_sl16 h1.1
  obtain ⟨y, rfl, hy⟩ := sh_sl32 h2.1
  obtain ⟨z, rfl⟩ := sh_u32 h3.1
  exact memOwn_law x y z
end Go.Abs
