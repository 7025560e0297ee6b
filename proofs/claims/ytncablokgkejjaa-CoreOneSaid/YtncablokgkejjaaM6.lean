/-
  Two memories side by side: the program's and the document's.
-/
import Derived.Test.YtncablokgkejjaaM5
set_option linter.unusedSimpArgs false
set_option linter.unusedVariables false
namespace Go.Abs
structure Ids where
  b : Nat
  wb : Nat
  rb : Nat
  cb : Nat
  rw : Nat
  tb : Nat
def AHeap.two (B : AHeap) (I : Ids) (m r : MemM) : AHeap := (B.mem I.b I.wb m).rmem I.rb I.cb I.rw I.tb r
structure TwoOk (B : AHeap) (I : Ids) (r : MemM) : Prop where
  wf : B.WF
  hb : I.b < B.next
  hwb : I.wb < B.next
  ne : I.b ≠ I.wb
  fix : RFix B I.rb I.cb I.rw I.tb r
  b1 : I.b ≠ I.rb
  b2 : I.b ≠ I.cb
  b3 : I.b ≠ I.rw
  b4 : I.b ≠ I.tb
  w1 : I.wb ≠ I.rb
  w2 : I.wb ≠ I.cb
  w3 : I.wb ≠ I.rw
  w4 : I.wb ≠ I.tb
theorem RFix.of {H : AHeap} {b cb wb tb : Nat} {m m' : MemM} (h : RFix H b cb wb tb m) (hc : m'.code = m.code) (ht : m'.tape = m.tape) : RFix H b cb wb tb m' :=
  ⟨fun q => by rw [hc] at q ⊢; exact h.code q, by rw [ht]; exact h.tape, h.hb, h.hwb, h.bw, h.bc, h.bt, h.wc, h.wt⟩
theorem RFix.push {H : AHeap} {b cb wb tb : Nat} {m : MemM} {x : Blk} (hw : H.WF) (h : RFix H b cb wb tb m) : RFix (H.push x) b cb wb tb m :=
  ⟨fun q => by have q1 := h.code q; have q2 := hw _ _ q1; simp (disch := omega) [q1], by have q1 := h.tape; have q2 := hw _ _ q1; simp (disch := omega) [q1], by have := h.hb; simp; omega, by have := h.hwb; simp; omega, h.bw, h.bc, h.bt, h.wc, h.wt⟩
theorem TwoOk.of {B : AHeap} {I : Ids} {r r' : MemM} (h : TwoOk B I r) (hc : r'.code = r.code) (ht : r'.tape = r.tape) : TwoOk B I r' :=
  { h with fix := h.fix.of hc ht }
theorem TwoOk.push {B : AHeap} {I : Ids} {r : MemM} {x : Blk} (h : TwoOk B I r) : TwoOk (B.push x) I r :=
  { h with wf := AHeap.WF.push h.wf, hb := by have := h.hb; simp; omega, hwb := by have := h.hwb; simp; omega, fix := h.fix.push h.wf }
section
variable {B : AHeap} {I : Ids} {m r : MemM}
theorem two_next : (B.two I m r).next = B.next := by simp [AHeap.two]
theorem two_get (c : Nat) : (B.two I m r).get c = if c = I.rb then some (rBlk I.cb I.rw I.tb r) else if c = I.rw ∧ 0 < r.words.length then some (wrdBlk r.words) else
    if c = I.b then some (memBlk I.wb m) else if c = I.wb then some (wrdBlk m.words) else B.get c := by
  unfold AHeap.two; rw [rmem_get, mem_get]
theorem two_of {X : AHeap} (hn : X.next = B.next) (h : ∀ c, X.get c = (B.two I m r).get c) : X = B.two I m r := AHeap.eq_of (by rw [hn, two_next]) (funext h)
theorem two_comm (h : TwoOk B I r) : B.two I m r = (B.rmem I.rb I.cb I.rw I.tb r).mem I.b I.wb m := by
  refine (two_of (by simp) fun c => ?_).symm
  rw [two_get, mem_get, rmem_get]
  by_cases h1 : c = I.b
  · subst h1; rw [if_pos rfl, if_neg h.b1, if_neg (fun q => h.b3 q.1), if_pos rfl]
  · by_cases h2 : c = I.wb
    · subst h2; rw [if_neg h1, if_pos rfl, if_neg h.w1, if_neg (fun q => h.w3 q.1), if_neg h1, if_pos rfl]
    · rw [if_neg h1, if_neg h2]; simp [h1, h2]
theorem two_get_rb : (B.two I m r).get I.rb = some (rBlk I.cb I.rw I.tb r) := by rw [two_get, if_pos rfl]
theorem two_get_rw (h : TwoOk B I r) (h0 : 0 < r.words.length) : (B.two I m r).get I.rw = some (wrdBlk r.words) := by rw [two_get, if_neg h.fix.bw, if_pos ⟨rfl, h0⟩]
theorem two_set_rw (h : TwoOk B I r) (h0 : 0 < r.words.length) (ws : List (BitVec 32)) (hl : ws.length = r.words.length) : (B.two I m r).set I.rw (some (wrdBlk ws)) = B.two I m { r with words := ws } := by
  refine two_of (by simp [two_next]) fun c => ?_
  rw [AHeap.get_set, two_get, two_get]
  by_cases e : c = I.rw
  · subst e; rw [if_pos rfl, if_neg h.fix.bw, if_pos ⟨rfl, by dsimp only; omega⟩]
  · rw [if_neg e]; simp only [e, false_and, if_false, rBlk, hl]
theorem fix_mem (h : TwoOk B I r) : RFix (B.mem I.b I.wb m) I.rb I.cb I.rw I.tb r :=
  ⟨fun q => by rw [mem_get, if_neg h.b2.symm, if_neg h.w2.symm]; exact h.fix.code q, by rw [mem_get, if_neg h.b4.symm, if_neg h.w4.symm]; exact h.fix.tape, h.fix.hb, h.fix.hwb, h.fix.bw, h.fix.bc, h.fix.bt, h.fix.wc, h.fix.wt⟩
theorem mem_wf' (h : TwoOk B I r) : (B.mem I.b I.wb m).WF := mem_wf _ _ _ _ h.wf h.hb h.hwb
theorem rmem_wf' (h : TwoOk B I r) : (B.rmem I.rb I.cb I.rw I.tb r).WF := rmem_wf h.wf h.fix.hb h.fix.hwb
theorem tLoad (h : TwoOk B I r) (hm : m.Ok) (a : BitVec 32) : mem_Mem_Load.spec [.ptr I.b 5 0 0, W32 a] (B.two I m r) = some (.tup [W32 (m.loads a).1.1, .int .i64 (m.loads a).1.2], B.two I (m.loads a).2 r) := by
  rw [two_comm h, two_comm h]; exact Load_eq _ _ _ _ (rmem_wf' h) (by simpa using h.hb) (by simpa using h.hwb) a h.ne hm
theorem tSet (h : TwoOk B I r) (i : Int) (x : BitVec 32) : mem_Mem_Set.spec [.ptr I.b 5 0 0, .int .i64 i, W32 x] (B.two I m r) = some (.bool (m.sets i x).1, B.two I (m.sets i x).2 r) := by
  rw [two_comm h, two_comm h]; exact Set_eq _ _ _ _ (rmem_wf' h) (by simpa using h.hb) (by simpa using h.hwb) i x h.ne
theorem trLoad (h : TwoOk B I r) (hr : r.Ok) (a : BitVec 32) : ref05_Mem_Load.spec [.ptr I.rb 5 0 0, W32 a] (B.two I m r) = some (.tup [W32 (r.loads a).1.1, .int .i64 (r.loads a).1.2], B.two I m (r.loads a).2) :=
  rLoad_eq _ _ _ _ _ _ (mem_wf' h) (fix_mem h) a hr
end
theorem loads_keep (m : MemM) (a : BitVec 32) : (m.loads a).2.code = m.code ∧ (m.loads a).2.tape = m.tape ∧ (m.loads a).2.words = m.words := by
  unfold MemM.loads MemM.load; dsimp only; repeat' split
  all_goals simp
theorem store_keep (m : MemM) (a x : BitVec 32) : (m.store a x).2.code = m.code ∧ (m.store a x).2.tape = m.tape ∧ (m.store a x).2.words.length = m.words.length := by
  unfold MemM.store; split <;> simp
theorem loads_ok {m : MemM} (h : m.Ok) (a : BitVec 32) : (m.loads a).2.Ok := by
  obtain ⟨h1, h2, h3⟩ := loads_keep m a
  have h4 := h.drawn
  refine ⟨by rw [h1]; exact h.code, by rw [h3]; exact h.words, by rw [h2]; exact h.tape, ?_⟩
  rw [h2]
  unfold MemM.loads MemM.load; dsimp only; repeat' split
  all_goals first | exact h4 | (dsimp only; omega)
theorem store_ok {m : MemM} (h : m.Ok) (a x : BitVec 32) : (m.store a x).2.Ok := by
  obtain ⟨h1, h2, h3⟩ := store_keep m a x
  refine ⟨by rw [h1]; exact h.code, by rw [h3]; exact h.words, by rw [h2]; exact h.tape, ?_⟩
  have h4 := h.drawn
  rw [h2]; unfold MemM.store; split <;> exact h4
end Go.Abs
