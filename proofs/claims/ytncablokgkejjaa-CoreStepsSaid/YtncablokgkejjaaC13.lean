/-
  The law of what each instruction does, over any memory: the law itself.
-/
import Derived.Test.YtncablokgkejjaaC12
import Derived.Test.YtncablokgkejjaaC10
set_option linter.unusedSimpArgs false
set_option linter.unusedVariables false
namespace Go.Abs
open Th
noncomputable abbrev stepsL := law06_CoreSteps.l0 ref02_Put.spec law06_lives.spec mem_New_refn.spec ref05_New.spec mem_Mem_Set.spec core_Step.spec ref06_Step.spec mem_Mem_Words.spec ref05_Same.spec mem_Mem_Bus.spec mem_Mem_Drawn.spec
theorem sets_at (m : MemM) (k : Nat) (hk : k < m.words.length) (x : BitVec 32) : m.sets k x = (true, { m with words := m.words.set k x }) := by
  have : m.there k = true := by simp [MemM.there]; omega
  unfold MemM.sets; rw [if_pos this]; rfl
theorem steps_put (B : AHeap) (I : Ids) (m : MemM) (k : Nat) (hk : k < 4) (x : BitVec 32) (row : List AV) (ok : TwoOk B I m) (hwd : m.words.length = 4) (h2 : B.get 2 = some ⟨T.ty_4_uint32, 4, true, [row]⟩) (hx : row[k]? = some (W32 x)) (ha : Apart I 2) :
    stepsL (AFr.al [(4, .ptr 1 13 0 0), (5, .ptr 2 4 0 0), (10, .ptr I.b 5 0 0), (11, .ptr I.rb 5 0 0), (12, .int .i64 k)]) (B.two I m m) =
      some (.normal, AFr.al [(4, .ptr 1 13 0 0), (5, .ptr 2 4 0 0), (10, .ptr I.b 5 0 0), (11, .ptr I.rb 5 0 0), (12, .int .i64 (k + 1 : Nat))], B.two I { m with words := m.words.set k x } { m with words := m.words.set k x }) := by
  have hT := fun m1 : MemM => tSet (m := m1) ok k x
  have e1 := sets_at m k (by omega) x
  have a1 := ha.b; have a2 := ha.wb; have a3 := ha.rb; have a4 := ha.rw
  have hc := cAV_pos I.rw 4 (by omega)
  have hG := fun m1 => two_get_rb (B := B) (I := I) (m := m1) (r := m)
  have hW := fun m1 => two_get_rw (m := m1) ok (by omega)
  simp only [rBlk, hwd, hc, wrdBlk] at hG hW
  simp -implicitDefEqProofs +contextual (disch := omega) [stepsL, law06_CoreSteps.l0, h2, hx, hT, e1, hG, hW, hwd, twoGet]
  exact two_set_rw ok (by omega) _ (by simp)
theorem steps_loop (B : AHeap) (I : Ids) (m : MemM) (w : List (BitVec 32)) (hw : w.length = 4) (ok : TwoOk B I m) (hwd : m.words.length = 4) (h2 : B.get 2 = some ⟨T.ty_4_uint32, 4, true, [w.map W32]⟩) (ha : Apart I 2) :
    aloop stepsL (AFr.al [(4, .ptr 1 13 0 0), (5, .ptr 2 4 0 0), (10, .ptr I.b 5 0 0), (11, .ptr I.rb 5 0 0), (12, .int .i64 0)]) (B.two I m m) =
      some (.exit 0, AFr.al [(4, .ptr 1 13 0 0), (5, .ptr 2 4 0 0), (10, .ptr I.b 5 0 0), (11, .ptr I.rb 5 0 0), (12, .int .i64 4), (39, .bool false)], B.two I (m.put4 w 4) (m.put4 w 4)) := by
  have h := aloop_go (f := stepsL) (fun k => AFr.al [(4, .ptr 1 13 0 0), (5, .ptr 2 4 0 0), (10, .ptr I.b 5 0 0), (11, .ptr I.rb 5 0 0), (12, .int .i64 (k : Nat))]) (fun k => B.two I (m.put4 w k) (m.put4 w k)) 4 (fun k hk => by
    obtain ⟨q1, q2, q3, q4⟩ := put4_keep m w k
    exact steps_put B I (m.put4 w k) k hk (at0 w k) _ (ok.of q1 q2) (by rw [q3, hwd]) h2 (by rw [List.getElem?_map, at0_get w k (by omega)]; rfl) ha) 0 (by omega)
  refine h.trans (aloop_exit (by simp) ?_)
  simp -implicitDefEqProofs +contextual (disch := omega) [stepsL, law06_CoreSteps.l0]
end Go.Abs
