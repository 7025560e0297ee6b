/-
  What code comes to: the program's run, whole.
-/
import Derived.Test.YtncablokgkejjaaR2
import Derived.Test.YtncablokgkejjaaC12
set_option linter.unusedSimpArgs false
set_option linter.unusedVariables false
namespace Go.Abs
open Th
def startM (code : List (BitVec 16)) (words tape : List (BitVec 32)) : MemM := ⟨code.take 60000, words, tape, 0, 0#32⟩
def s00 : StM := ⟨[0#32, 0#32, 0#32, 0#32, 0#32, 0#32, 0#32, 0#32], rfl, 0#32, false, false, false, false⟩
theorem put4_words (m : MemM) (w : List (BitVec 32)) (h : m.words.length = w.length) : ∀ k, k ≤ w.length → (m.put4 w k).words = w.take k ++ m.words.drop k
  | 0, _ => by simp [MemM.put4]
  | k + 1, hk => by
    have ih := put4_words m w h k (by omega)
    simp only [MemM.put4, ih]
    rw [List.set_append_right _ _ (by simp; omega), List.length_take, Nat.min_eq_left (by omega), Nat.sub_self]
    rw [List.drop_eq_getElem_cons (show k < m.words.length by omega), List.set_cons_zero, take_succ w k (by omega)]
    simp
theorem put4_rest (m : MemM) (w : List (BitVec 32)) (k : Nat) : (m.put4 w k).drawn = m.drawn ∧ (m.put4 w k).bus = m.bus ∧ (m.put4 w k).code = m.code ∧ (m.put4 w k).tape = m.tape := by
  induction k with
  | zero => exact ⟨rfl, rfl, rfl, rfl⟩
  | succ k ih => exact ih
theorem put4_start (code : List (BitVec 16)) (words tape : List (BitVec 32)) (hw : words.length ≤ 16000) : (MemM.new code words.length tape).put4 words words.length = startM code words tape := by
  have hl : (MemM.new code words.length tape).words.length = words.length := by simp only [MemM.new, List.length_replicate]; omega
  have h1 := put4_words _ words hl words.length (Nat.le_refl _)
  obtain ⟨h2, h3, h4, h5⟩ := put4_rest (MemM.new code words.length tape) words words.length
  rw [List.take_length, List.drop_eq_nil_of_le (by omega), List.append_nil] at h1
  generalize (MemM.new code words.length tape).put4 words words.length = q at *
  obtain ⟨a, b, c, d, e⟩ := q
  dsimp only at *
  subst h1 h2 h3 h4 h5
  rfl
theorem start_ok (code : List (BitVec 16)) (words tape : List (BitVec 32)) (hw : words.length ≤ 16000) (ht : tape.length ≤ 1000000000) : (startM code words tape).Ok := by
  refine ⟨?_, hw, ht, Nat.zero_le _⟩
  simp only [startM, List.length_take]; omega
noncomputable abbrev goesL0 := run_goes.l0 mem_New.spec mem_Mem_Set.spec leak_Step.spec core_Step.spec mem_Mem_Drawn.spec mem_Mem_Words.spec
theorem sets_at2 (m : MemM) (k : Nat) (hk : k < m.words.length) (x : BitVec 32) : m.sets k x = (true, { m with words := m.words.set k x }) := by
  have : m.there k = true := by simp [MemM.there]; omega
  unfold MemM.sets; rw [if_pos this]; rfl
theorem goes_put (B : AHeap) (hw : B.WF) (hn : 3 ≤ B.next) (m : MemM) (words : List (BitVec 32)) (k : Nat) (hk : k < words.length) (hl : m.words.length = words.length) (hl2 : words.length ≤ 16000) (a b c : AV) :
    goesL0 (AFr.al [(3, a), (4, b), (10, c), (11, .ptr 2 5 0 0), (24, .rsl 1 (w32s words)), (25, .int .i64 words.length), (26, .int .i64 k)]) (B.mem 2 1 m) =
      some (.normal, AFr.al [(3, a), (4, b), (10, c), (11, .ptr 2 5 0 0), (24, .rsl 1 (w32s words)), (25, .int .i64 words.length), (26, .int .i64 (k + 1 : Nat))], B.mem 2 1 { m with words := m.words.set k (at0 words k) }) := by
  have hS := Set_eq B 2 1 m hw (by omega) (by omega) k (at0 words k) (by omega)
  rw [sets_at2 m k (by omega)] at hS
  have h1 : (k : Int) < (words.length : Int) := by omega
  simp -implicitDefEqProofs +contextual (disch := omega) [goesL0, run_goes.l0, hS, h1, hk]
theorem goes_words (B : AHeap) (hw : B.WF) (hn : 3 ≤ B.next) (code : List (BitVec 16)) (words tape : List (BitVec 32)) (hl2 : words.length ≤ 16000) (a b c : AV) :
    aloop goesL0 (AFr.al [(3, a), (4, b), (10, c), (11, .ptr 2 5 0 0), (24, .rsl 1 (w32s words)), (25, .int .i64 words.length), (26, .int .i64 0)]) (B.mem 2 1 (MemM.new code words.length tape)) =
      some (.exit 0, AFr.al [(3, a), (4, b), (10, c), (11, .ptr 2 5 0 0), (24, .rsl 1 (w32s words)), (25, .int .i64 words.length), (26, .int .i64 words.length), (27, .bool false)], B.mem 2 1 (startM code words tape)) := by
  have hl : (MemM.new code words.length tape).words.length = words.length := by simp only [MemM.new, List.length_replicate]; omega
  have h := aloop_go (f := goesL0) (fun k => AFr.al [(3, a), (4, b), (10, c), (11, .ptr 2 5 0 0), (24, .rsl 1 (w32s words)), (25, .int .i64 words.length), (26, .int .i64 (k : Nat))]) (fun k => B.mem 2 1 ((MemM.new code words.length tape).put4 words k)) words.length (fun k hk => by
    obtain ⟨q1, q2, q3, q4⟩ := put4_keep (MemM.new code words.length tape) words k
    exact goes_put B hw hn _ words k hk (by rw [q3, hl]) hl2 a b c) 0 (by omega)
  rw [put4_start code words tape hl2] at h
  refine h.trans (aloop_exit (by simp) ?_)
  simp -implicitDefEqProofs +contextual (disch := omega) [goesL0, run_goes.l0]
def outAV (R : List LeakM × MemM × Int) (b : Bool) : AV := .agg [.int .i64 R.1.length, .int .i64 R.2.1.drawn, .int .i64 R.2.2, .rsl 1 (w32s R.2.1.words), .rsl 10 (lrows (if b = true then R.1 else []))]
theorem goL_keeps : ∀ (n : Nat) (s : StM) (m : MemM), Keeps m (goL n s m).2.1
  | 0, s, m => .rfl' m
  | n + 1, s, m => by
    have h := keeps_step s m
    unfold goL; split
    · exact h
    · split
      · exact h
      · have h2 := goL_keeps n (stepM s m).s (stepM s m).m
        exact ⟨h2.code.trans h.code, h2.tape.trans h.tape, h2.words.trans h.words, fun q => h2.ok (h.ok q)⟩
set_option maxHeartbeats 4000000 in
theorem goes_eq (code : List (BitVec 16)) (words tape : List (BitVec 32)) (lim : Int) (b : Bool) (hc : code.length ≤ 1000000000) (hw : words.length ≤ 16000) (ht : tape.length ≤ 1000000000) :
    run_goes.spec [.rsl 1 (w16s code), .rsl 1 (w32s words), .rsl 1 (w32s tape), .int .i64 lim, .bool b] = some (outAV (goL (min (max lim 0) 1048576).toNat s00 (startM code words tape)) b) := by
  have hN := fun H => new_eq H code tape words.length hc ht
  obtain ⟨n, hn⟩ : ∃ n : Nat, (n : Int) = min (max lim 0) 1048576 := ⟨(min (max lim 0) 1048576).toNat, by omega⟩
  have hn1 : n ≤ 1048576 := by omega
  have hn2 : (min (max lim 0) 1048576).toNat = n := by omega
  rw [hn2]
  have hok := start_ok code words tape hw ht
  have hK := goL_keeps n s00 (startM code words tape)
  have hw1 := goes_words ((AHeap.empty.push ⟨T.ty_api_Outcome, 5, true, [[.int .i64 0, .int .i64 0, .int .i64 0, .nils, .nils]]⟩).bump 2) (bump_wf (AHeap.WF.push AHeap.WF.empty) 2) (by simp) code words tape hw
  unfold goesL0 at hw1
  have key : ∃ fr' B', aloop goesL (goesF n b []) (((((((AHeap.empty.push ⟨T.ty_api_Outcome, 5, true, [[.int .i64 0, .int .i64 0, .int .i64 0, .nils, .nils]]⟩).bump 2).push ⟨T.ty_api_Outcome, 5, true, [[.int .i64 0, .int .i64 0, .int .i64 0, .nils, .nils]]⟩).set 3 (some ⟨T.ty_api_Outcome, 5, true, [[.int .i64 0, .int .i64 0, .int .i64 80, .nils, .nils]]⟩)).push (stBlk s00))).mem 2 1 (startM code words tape)) = some (.exit 2, fr', B'.mem 2 1 (goL n s00 (startM code words tape)).2.1) ∧ GF fr' ∧
      GI B' (goL n s00 (startM code words tape)).1.length (goL n s00 (startM code words tape)).2.2 (if b = true then (goL n s00 (startM code words tape)).1 else []) := by
    have hG : GI (((((AHeap.empty.push ⟨T.ty_api_Outcome, 5, true, [[.int .i64 0, .int .i64 0, .int .i64 0, .nils, .nils]]⟩).bump 2).push ⟨T.ty_api_Outcome, 5, true, [[.int .i64 0, .int .i64 0, .int .i64 0, .nils, .nils]]⟩).set 3 (some ⟨T.ty_api_Outcome, 5, true, [[.int .i64 0, .int .i64 0, .int .i64 80, .nils, .nils]]⟩)).push (stBlk s00)) 0 80 [] :=
      ⟨AHeap.WF.push (AHeap.WF.set (AHeap.WF.push (bump_wf (AHeap.WF.push AHeap.WF.empty) 2)) (by simp)), by simp, by simp [bumpGet, outB], ⟨0, true, by simp [bumpGet, outB, lAV], fun h => (h rfl).elim⟩⟩
    cases b with
    | true =>
      obtain ⟨fr', B', h1, h2, h3⟩ := goes_all n hn1 n _ s00 (startM code words tape) [] [] (by simp) hok hG (by simp [bumpGet])
      exact ⟨fr', B', h1, h2, by simpa using h3⟩
    | false =>
      obtain ⟨fr', B', h1, h2, h3⟩ := goes_allq n hn1 n _ s00 (startM code words tape) 0 [] (by simp) hok hG (by simp [bumpGet])
      exact ⟨fr', B', h1, h2, by simpa using h3⟩
  obtain ⟨fr', B', hl, ⟨f1, f2, f3⟩, ⟨wf, nx, fst, c, fl, out, hcc⟩⟩ := key
  unfold outAV
  have hok2 := hK.ok hok
  generalize goL n s00 (startM code words tape) = R at *
  obtain ⟨ls, m', e⟩ := R
  dsimp only at *
  generalize (if b = true then ls else []) = ls' at *
  unfold goesL goesF at hl
  simp only [stBlk, show s00.cells = [W32 0#32, W32 0#32, W32 0#32, W32 0#32, W32 0#32, W32 0#32, W32 0#32, W32 0#32, W32 0#32, .bool false, .bool false, .bool false, .bool false] from rfl] at hl
  have hD := fun (B' : AHeap) (h1 : B'.WF) (h2 : 2 < B'.next) (h3 : 1 < B'.next) => Drawn_eq B' 2 1 m' h1 h2 h3
  have hW := fun (B' : AHeap) (h1 : B'.WF) (h2 : 2 < B'.next) (h3 : 1 < B'.next) => Words_eq B' 2 1 m' h1 h2 h3 (by omega) hok2.words
  simp only [outB] at out fst
  by_cases hls : ls' = []
  · subst hls
    simp only [lAV, if_true] at out
    simp -implicitDefEqProofs +contextual (disch := try first | omega | assumption | (simp; done)) [run_goes.spec, run_goes, hN, hw1, hn.symm, hl, f1, f2, f3, hD, hW, out, fst, memPush, memSet, memGet]
  · obtain ⟨hc1, hc2⟩ := hcc hls
    simp only [lAV, hls, if_false] at out
    simp -implicitDefEqProofs +contextual (disch := try first | omega | assumption | (simp; done)) [run_goes.spec, run_goes, hN, hw1, hn.symm, hl, f1, f2, f3, hD, hW, out, fst, hc2, memPush, memSet, memGet]
    exact List.take_of_length_le (by simp)
end Go.Abs
