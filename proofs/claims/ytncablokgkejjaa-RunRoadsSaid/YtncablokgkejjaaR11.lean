/-
  The laws of runs: roads and cycles.
-/
import Derived.Test.YtncablokgkejjaaR9
import Derived.Test.YtncablokgkejjaaK3
set_option linter.unusedSimpArgs false
set_option linter.unusedVariables false
namespace Go.Abs
open Th
def roadM : List LeakM → List LeakM → Bool
  | [], [] => true
  | a :: as, b :: bs => sameM a b && roadM as bs
  | _, _ => false
theorem roadM_len : ∀ (a b : List LeakM), roadM a b = true → a.length = b.length
  | [], [], _ => rfl
  | a :: as, b :: bs, h => by simp only [roadM, Bool.and_eq_true] at h; simp [roadM_len as bs h.2]
  | [], b :: bs, h => by simp [roadM] at h
  | a :: as, [], h => by simp [roadM] at h
theorem roadM_drop (a b : List LeakM) (k : Nat) (x y : LeakM) (hx : a[k]? = some x) (hy : b[k]? = some y) : roadM (a.drop k) (b.drop k) = (sameM x y && roadM (a.drop (k + 1)) (b.drop (k + 1))) := by
  obtain ⟨h1, e1⟩ := List.getElem?_eq_some_iff.1 hx
  obtain ⟨h2, e2⟩ := List.getElem?_eq_some_iff.1 hy
  rw [List.drop_eq_getElem_cons h1, List.drop_eq_getElem_cons h2, e1, e2]
  rfl
theorem road_loop (a b : List LeakM) (hl : a.length = b.length) (hm : a.length ≤ 1048576) (H : AHeap) : ∀ d k : Nat, k + d = a.length →
    ∃ e fr', aloop (ref08_Road.l0 ref07_Control.spec) (AFr.al [(0, .rsl 10 (lrows a)), (1, .rsl 10 (lrows b)), (5, .int .i64 k)]) H = some (e, fr', H) ∧
      ((roadM (a.drop k) (b.drop k) = true ∧ e = .exit 0) ∨ (roadM (a.drop k) (b.drop k) = false ∧ e = .ret ∧ fr' 4 = .bool false))
  | 0, k, h => by
    obtain rfl : k = a.length := by omega
    refine ⟨_, _, aloop_exit (e := .exit 0) (by simp) (by simp -implicitDefEqProofs +contextual (disch := omega) [ref08_Road.l0]; rfl), .inl ⟨?_, rfl⟩⟩
    rw [List.drop_length, hl, List.drop_length]; rfl
  | d + 1, k, h => by
    have h1 : (k : Int) < (a.length : Int) := by omega
    have h1' : (k : Int) < (b.length : Int) := by omega
    have hx : a[k]? = some (a[k]'(by omega)) := List.getElem?_eq_getElem _
    have hy : b[k]? = some (b[k]'(by omega)) := List.getElem?_eq_getElem _
    have h2 := lrows_at a k _ hx
    have h3 := lrows_at b k _ hy
    have hC := Control_eq (a[k]'(by omega)) (b[k]'(by omega))
    rw [roadM_drop a b k _ _ hx hy]
    generalize a[k]'(by omega) = x at *
    generalize b[k]'(by omega) = y at *
    simp only [LeakM.cells] at hC
    cases hs : sameM x y with
    | false =>
      rw [hs] at hC
      refine ⟨_, _, aloop_exit (e := .ret) (by simp) (by simp -implicitDefEqProofs +contextual (disch := omega) [ref08_Road.l0, h1, h1', h2, h3, hC]; rfl), .inr ⟨by simp, rfl, rfl⟩⟩
    | true =>
      rw [hs] at hC
      obtain ⟨e, fr', q1, q2⟩ := road_loop a b hl hm H d (k + 1) (by omega)
      refine ⟨e, fr', ?_, by simpa using q2⟩
      refine (aloop_step (fr' := AFr.al [(0, .rsl 10 (lrows a)), (1, .rsl 10 (lrows b)), (5, .int .i64 (k + 1 : Nat))]) (H' := H) ?_).trans q1
      simp -implicitDefEqProofs +contextual (disch := omega) [ref08_Road.l0, h1, h1', h2, h3, hC]
theorem rRoad_eq (a b : List LeakM) (hm : a.length ≤ 1048576) : ref08_Road.spec [.rsl 10 (lrows a), .rsl 10 (lrows b)] = some (.bool (roadM a b)) := by
  by_cases hl : a.length = b.length
  · obtain ⟨e, fr', h1, h2⟩ := road_loop a b hl hm AHeap.empty a.length 0 (by omega)
    simp only [List.drop_zero] at h2
    rw [show ((0 : Nat) : Int) = 0 from rfl] at h1
    rcases h2 with ⟨q1, rfl⟩ | ⟨q1, rfl, q2⟩
    · rw [q1]
      simp -implicitDefEqProofs +contextual (disch := omega) [ref08_Road.spec, ref08_Road, hl, h1]
    · rw [q1]
      simp -implicitDefEqProofs +contextual (disch := omega) [ref08_Road.spec, ref08_Road, hl, h1, q2]
  · have : roadM a b = false := by
      cases h : roadM a b with
      | false => rfl
      | true => exact (hl (roadM_len a b h)).elim
    have hl' : ¬ (a.length : Int) = (b.length : Int) := by omega
    rw [this]
    simp -implicitDefEqProofs +contextual (disch := omega) [ref08_Road.spec, ref08_Road, hl']
end Go.Abs
