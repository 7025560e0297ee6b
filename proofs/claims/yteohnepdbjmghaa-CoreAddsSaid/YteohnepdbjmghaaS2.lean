/-
  What heaps refer to.
-/
import Derived.Test.YteohnepdbjmghaaM1
set_option linter.unusedSimpArgs false
set_option linter.unusedVariables false
namespace Go.Abs
def ScH (H : AHeap) (n : Nat) : Prop := ∀ b blk, H.get b = some blk → ∀ row, row ∈ blk.rows → ∀ a, a ∈ row → scv n a = true
theorem Scope.of {vals : List AV} {H : AHeap} (h1 : vals.all (scv H.next) = true) (h2 : ScH H H.next) : Scope vals H := ⟨fun a ha => List.all_eq_true.1 h1 a ha, h2⟩
theorem ScH.empty (n : Nat) : ScH AHeap.empty n := fun b blk h => by simp [AHeap.empty] at h
theorem scv_mono {n k : Nat} (h : n ≤ k) {a : AV} (ha : scv n a = true) : scv k a = true := by
  have low : ∀ a : AV, idsBelow n a = true → idsBelow k a = true := fun a ha => by
    cases a <;> simp [idsBelow] at ha ⊢ <;> first | omega | exact ha
  cases a <;> simp only [scv] at ha ⊢
  case agg cs => exact List.all_eq_true.2 fun x hx => low x (List.all_eq_true.1 ha x hx)
  case tup cs => exact List.all_eq_true.2 fun x hx => low x (List.all_eq_true.1 ha x hx)
  case clo f fs cs =>
    simp only [Bool.and_eq_true] at ha ⊢
    exact ⟨List.all_eq_true.2 fun x hx => low x (List.all_eq_true.1 ha.1 x hx), List.all_eq_true.2 fun x hx => low x (List.all_eq_true.1 ha.2 x hx)⟩
  all_goals exact low _ ha
theorem ScH.mono {H : AHeap} {n k : Nat} (h : ScH H n) (hk : n ≤ k) : ScH H k := fun b blk hb row hr a ha => scv_mono hk (h b blk hb row hr a ha)
theorem ScH.push {H : AHeap} {n : Nat} {x : Blk} (h : ScH H n) (hx : (x.rows.all fun row => row.all (scv n)) = true) : ScH (H.push x) n := fun b blk hb row hr a ha => by
  rw [AHeap.get_push] at hb
  split at hb
  · simp only [Option.some.injEq] at hb; subst hb
    exact List.all_eq_true.1 (List.all_eq_true.1 hx row hr) a ha
  · exact h b blk hb row hr a ha
theorem ScH.set {H : AHeap} {n c : Nat} {x : Blk} (h : ScH H n) (hx : (x.rows.all fun row => row.all (scv n)) = true) : ScH (H.set c (some x)) n := fun b blk hb row hr a ha => by
  rw [AHeap.get_set] at hb
  split at hb
  · simp only [Option.some.injEq] at hb; subst hb
    exact List.all_eq_true.1 (List.all_eq_true.1 hx row hr) a ha
  · exact h b blk hb row hr a ha
theorem ScH.sub {H H' : AHeap} {n : Nat} (h : ScH H n) (hg : ∀ b x, H'.get b = some x → H.get b = some x) : ScH H' n := fun b blk hb => h b blk (hg b blk hb)
theorem ScH.kill {H : AHeap} {n : Nat} (h : ScH H n) (S : List Nat) : ScH (H.killAll S) n := h.sub fun b x hb => by
  rw [AHeap.get_killAll] at hb
  split at hb
  · cases hb
  · exact hb
theorem ScH.mem {H : AHeap} {n b wb : Nat} {m : MemM} (h : ScH H n) (hwb : wb < n) : ScH (H.mem b wb m) n := fun c blk hc row hr a ha => by
  rw [mem_get] at hc
  split at hc
  · simp only [Option.some.injEq, memBlk] at hc; subst hc
    simp only [List.mem_singleton] at hr; subst hr
    simp only [List.mem_cons, List.not_mem_nil, or_false] at ha
    rcases ha with rfl | rfl | rfl | rfl | rfl
    · rfl
    · simp [scv, idsBelow, hwb]
    · rfl
    · rfl
    · rfl
  · split at hc
    · simp only [Option.some.injEq, wrdBlk] at hc; subst hc
      simp only [w32s, List.mem_map] at hr
      obtain ⟨x, _, rfl⟩ := hr
      simp only [List.mem_singleton] at ha
      subst ha; rfl
    · exact h c blk hc row hr a ha
end Go.Abs
