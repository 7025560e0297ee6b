/-
  What an instruction leaks, over both memories; memory of a little code, by both.
-/
import Derived.Test.YtncablokgkejjaaK5
import Derived.Test.YtncablokgkejjaaK3
import Derived.Test.YtncablokgkejjaaC12
import Derived.Test.YtncablokgkejjaaC10
set_option linter.unusedSimpArgs false
set_option linter.unusedVariables false
namespace Go.Abs
open Th
section
variable {B : AHeap} {I : Ids} {m r : MemM}
theorem tLStep (h : TwoOk B I r) (hm : m.Ok) (s : StM) : leak_Step.spec [.agg s.cells, .ptr I.b 5 0 0] (B.two I m r) = some (LeakAV s m, B.two I (stepM s m).m r) := by
  rw [two_comm h, two_comm h]; exact LStep_eq _ _ _ _ (rmem_wf' h) (by simpa using h.hb) (by simpa using h.hwb) h.ne hm s
theorem trLStep (h : TwoOk B I r) (hr : r.Ok) (s : StM) : ref07_Step.spec [.agg s.cells, .ptr I.rb 5 0 0] (B.two I m r) = some (LeakAV s r, B.two I m (stepM s r).m) :=
  rLStep_eq _ _ _ _ _ _ ⟨mem_wf' h, fix_mem h, hr⟩ s
end
noncomputable abbrev bothL := law07_both.l0 mem_New.spec ref05_New.spec mem_Mem_Set.spec
theorem sets_at' (m : MemM) (k : Nat) (hk : k < m.words.length) (x : BitVec 32) : m.sets k x = (true, { m with words := m.words.set k x }) := by
  have : m.there k = true := by simp [MemM.there]; omega
  unfold MemM.sets; rw [if_pos this]; rfl
theorem both_put (B : AHeap) (I : Ids) (m : MemM) (a k : Nat) (hk : k < 4) (x : BitVec 32) (row : List AV) (ok : TwoOk B I m) (hwd : m.words.length = 4) (h2 : B.get a = some ⟨T.ty_4_uint32, 4, true, [row]⟩) (hx : row[k]? = some (W32 x)) (ha : Apart I a) :
    bothL (AFr.al [(3, .ptr a 4 0 0), (6, .ptr I.b 5 0 0), (7, .ptr I.rb 5 0 0), (8, .int .i64 k)]) (B.two I m m) =
      some (.normal, AFr.al [(3, .ptr a 4 0 0), (6, .ptr I.b 5 0 0), (7, .ptr I.rb 5 0 0), (8, .int .i64 (k + 1 : Nat))], B.two I { m with words := m.words.set k x } { m with words := m.words.set k x }) := by
  have hT := fun m1 : MemM => tSet (m := m1) ok k x
  have e1 := sets_at' m k (by omega) x
  have a1 := ha.b; have a2 := ha.wb; have a3 := ha.rb; have a4 := ha.rw
  have hc := cAV_pos I.rw 4 (by omega)
  have hG := fun m1 => two_get_rb (B := B) (I := I) (m := m1) (r := m)
  have hW := fun m1 => two_get_rw (m := m1) ok (by omega)
  simp only [rBlk, hwd, hc, wrdBlk] at hG hW
  simp -implicitDefEqProofs +contextual (disch := omega) [bothL, law07_both.l0, h2, hx, hT, e1, hG, hW, hwd, twoGet]
  exact two_set_rw ok (by omega) _ (by simp)
theorem both_loop (B : AHeap) (I : Ids) (m : MemM) (a : Nat) (w : List (BitVec 32)) (hw : w.length = 4) (ok : TwoOk B I m) (hwd : m.words.length = 4) (h2 : B.get a = some ⟨T.ty_4_uint32, 4, true, [w.map W32]⟩) (ha : Apart I a) :
    aloop bothL (AFr.al [(3, .ptr a 4 0 0), (6, .ptr I.b 5 0 0), (7, .ptr I.rb 5 0 0), (8, .int .i64 0)]) (B.two I m m) =
      some (.exit 0, AFr.al [(3, .ptr a 4 0 0), (6, .ptr I.b 5 0 0), (7, .ptr I.rb 5 0 0), (8, .int .i64 4), (21, .bool false)], B.two I (m.put4 w 4) (m.put4 w 4)) := by
  have h := aloop_go (f := bothL) (fun k => AFr.al [(3, .ptr a 4 0 0), (6, .ptr I.b 5 0 0), (7, .ptr I.rb 5 0 0), (8, .int .i64 (k : Nat))]) (fun k => B.two I (m.put4 w k) (m.put4 w k)) 4 (fun k hk => by
    obtain ⟨q1, q2, q3, q4⟩ := put4_keep m w k
    exact both_put B I (m.put4 w k) a k hk (at0 w k) _ (ok.of q1 q2) (by rw [q3, hwd]) h2 (by rw [List.getElem?_map, at0_get w k (by omega)]; rfl) ha) 0 (by omega)
  refine h.trans (aloop_exit (by simp) ?_)
  simp -implicitDefEqProofs +contextual (disch := omega) [bothL, law07_both.l0]
def m78 (code : List (BitVec 16)) (w : List (BitVec 32)) : MemM := (MemM.new code 4 [7#32, 8#32]).put4 w 4
theorem both_ex (H : AHeap) (hw : H.WF) (code : List (BitVec 16)) (hc : code.length ≤ 1000) (w0 w1 w2 w3 : BitVec 32) :
    ∃ B I, law07_both.spec [.rsl 1 (w16s code), .agg [W32 w0, W32 w1, W32 w2, W32 w3]] H = some (.tup [.ptr I.b 5 0 0, .ptr I.rb 5 0 0], B.two I (m78 code [w0, w1, w2, w3]) (m78 code [w0, w1, w2, w3])) ∧ TwoOk B I (m78 code [w0, w1, w2, w3]) ∧
      H.next ≤ B.next ∧ H.next ≤ I.b ∧ H.next ≤ I.wb ∧ H.next ≤ I.rb ∧ H.next ≤ I.rw ∧ H.next ≤ I.cb ∧ H.next ≤ I.tb ∧ ∀ c, c < H.next → B.get c = H.get c := by
  have hNew := fun H => new_eq H code [7#32, 8#32] 4 (by omega) (by simp)
  simp only [w32s, List.map_cons, List.map_nil] at hNew
  simp -implicitDefEqProofs +contextual (disch := omega) [law07_both.spec, law07_both, hNew, mem_get, bumpGet]
  generalize hr : ref05_New.spec _ _ = r
  have hm0 := new_ok code [7#32, 8#32] 4 (by simp)
  have hwd0 : (MemM.new code 4 [7#32, 8#32]).words.length = 4 := by simp only [MemM.new, List.length_replicate]; decide
  have hmb : MemM.new code 4 [7#32, 8#32] = MemM.new code 4 [7#32, 8#32] := rfl
  obtain ⟨B, I, rfl, hb, hwb, ok, i1, i2, i3, i4, i5, hB⟩ := two_of_mem code [7#32, 8#32] 4 (H.next + 1 + 1 + 1 + 1 + 1) (H.next + 1 + 1 + 1 + 1) (MemM.new code 4 [7#32, 8#32]) hr
    (by (repeat' (first | assumption | with_reducible apply killAll_wf | with_reducible apply bump_wf | with_reducible apply mem_wf | with_reducible apply AHeap.WF.push | with_reducible apply AHeap.WF.set)) <;> (simp <;> omega))
    (by omega) (by simp <;> omega) (by simp <;> omega) (by simp (disch := omega) [mem_get, memBlk]) (by simp (disch := omega) [mem_get, wrdBlk]) (by omega) (by simp)
  simp only [next_killAll, AHeap.next_push, mem_next, bump_next, AHeap.next_set, empty_next] at i1 i2 i3 i4 i5 hB
  have g2 := hB H.next (by omega)
  simp (disch := omega) [mem_get, bumpGet] at g2
  have ha : Apart I H.next := ⟨by omega, by omega, by omega, by omega, by omega, by omega⟩
  have hl := both_loop B I _ H.next [w0, w1, w2, w3] rfl ok hwd0 g2 ha
  unfold bothL at hl
  obtain ⟨q1, q2, q3, q4⟩ := put4_keep (MemM.new code 4 [7#32, 8#32]) [w0, w1, w2, w3] 4
  refine ⟨B, I, ?_, ok.of q1 q2, by omega, by omega, by omega, by omega, by omega, by omega, by omega, fun c hc => ?_⟩
  · rw [← hb]
    clear hr hB
    simp -implicitDefEqProofs +contextual (disch := omega) [hl, m78]
  · rw [hB c (by omega)]
    simp (disch := omega) [mem_get, bumpGet]
end Go.Abs
