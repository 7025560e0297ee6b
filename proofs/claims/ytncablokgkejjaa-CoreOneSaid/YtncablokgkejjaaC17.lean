/-
  The law that an instruction sets its own register and hangs on what it reads: the two loops.
-/
import Derived.Test.YtncablokgkejjaaC14
import Derived.Test.YtncablokgkejjaaC16
import Derived.Test.YtncablokgkejjaaP2
import Derived.Test.YtncablokgkejjaaT9
import Derived.Test.YtncablokgkejjaaK4
set_option linter.unusedSimpArgs false
set_option linter.unusedVariables false
namespace Go.Abs
open Th
def copyR (s : StM) : List Int → StM → StM
  | [], t => t
  | x :: l, t => copyR s l (t.setR x.toNat (s.reg x.toNat))
theorem copyR_keep (s : StM) : ∀ (l : List Int) (t : StM) (r : Nat), r < 8 → (∀ x ∈ l, ∃ q : Nat, q < 8 ∧ x = q) → ((r : Int) ∈ l ∨ t.reg r = s.reg r) → (copyR s l t).reg r = s.reg r
  | [], t, r, _, _, h => by
    rcases h with h | h
    · cases h
    · exact h
  | x :: l, t, r, hr, hl, h => by
    refine copyR_keep s l _ r hr (fun y hy => hl y (by simp [hy])) ?_
    obtain ⟨q, hq, rfl⟩ := hl x (by simp)
    simp only [Int.toNat_natCast]
    by_cases e : r = q
    · subst e; exact .inr (reg_setR_self _ _ _ hr)
    · rcases h with h | h
      · rcases List.mem_cons.1 h with h | h
        · omega
        · exact .inl h
      · exact .inr (by rw [reg_setR _ _ _ _ hr e]; exact h)
theorem upF_mem (f : Nat → Bool) (r : Nat) : ∀ d k, k ≤ r → r < k + d → f r = true → (r : Int) ∈ upF f k d
  | 0, _, _, _, _ => by omega
  | d + 1, k, h1, h2, h => by
    simp only [upF, List.mem_append]
    by_cases e : k = r
    · subst e; exact .inl (by simp [h])
    · exact .inr (upF_mem f r d (k + 1) (by omega) (by omega) h)
theorem upF_lt (f : Nat → Bool) (x : Int) : ∀ d k, k + d ≤ 8 → x ∈ upF f k d → ∃ q : Nat, q < 8 ∧ x = q
  | 0, _, _, h => by cases h
  | d + 1, k, h0, h => by
    simp only [upF, List.mem_append] at h
    rcases h with h | h
    · split at h
      · simp at h; exact ⟨k, by omega, h⟩
      · cases h
    · exact upF_lt f x d (k + 1) (by omega) h
theorem upF_length (f : Nat → Bool) : ∀ d k, (upF f k d).length ≤ d
  | 0, _ => by simp [upF]
  | d + 1, k => by
    have := upF_length f d (k + 1)
    simp only [upF, List.length_append]
    split <;> simp <;> omega
noncomputable abbrev oneL0 := law06_CoreOne.l0 ref02_Put.spec law06_lives.spec ref02_Reads.spec mem_New.spec core_Step.spec ref02_Writes.spec mem_Mem_Words.spec ref05_Same.spec
noncomputable abbrev oneL1 := law06_CoreOne.l1 ref02_Put.spec law06_lives.spec ref02_Reads.spec mem_New.spec core_Step.spec ref02_Writes.spec mem_Mem_Words.spec ref05_Same.spec
def oneFr (v : AV) (L : List Int) (k : Nat) (x : List (Nat × AV)) : AFr := AFr.al ([(2, .ptr 0 5 0 0), (5, v), (7, .ptr 2 13 0 0), (8, .ptr 3 13 0 0), (9, .rsl 1 (ints L)), (10, .int .i64 k)] ++ x)
theorem copy_loop (s : StM) (v : AV) (L : List Int) (hlen : L.length ≤ 8) (hL : ∀ x ∈ L, ∃ r : Nat, r < 8 ∧ x = r) : ∀ (d k : Nat) (t : StM) (X : AHeap), k + d = L.length → X.WF → X.get 2 = some (stBlk s) → X.get 3 = some (stBlk t) →
    ∃ X', aloop oneL0 (oneFr v L k []) X = some (.exit 0, oneFr v L L.length [(39, .bool false)], X') ∧ X'.next = X.next ∧ X'.WF ∧ (∀ c, c ≠ 3 → X'.get c = X.get c) ∧ X'.get 3 = some (stBlk (copyR s (L.drop k) t)) := by
  intro d
  induction d with
  | zero =>
    intro k t X h hw g2 g3
    obtain rfl : k = L.length := by omega
    refine ⟨X, aloop_exit (by simp) (by simp -implicitDefEqProofs +contextual (disch := omega) [law06_CoreOne.l0, oneFr]), rfl, hw, fun _ _ => rfl, by simpa [copyR] using g3⟩
  | succ d ih =>
    intro k t X h hw g2 g3
    have hk : k < L.length := by omega
    obtain ⟨r, hr, hx⟩ := hL L[k] (List.getElem_mem hk)
    have hi : (ints L)[k]? = some [.int .i64 r] := by simp [ints, hk, hx]
    have hk' : (k : Int) < L.length := by omega
    have h3 := hw _ _ g3
    have hk1 : ((k + 1 : Nat) : Int) = (k : Int) + 1 := by omega
    have hdr : L.drop k = (r : Int) :: L.drop (k + 1) := by rw [List.drop_eq_getElem_cons hk, hx]
    have st : ∃ X1 : AHeap, oneL0 (oneFr v L k []) X = some (.normal, oneFr v L (k + 1) [], X1) ∧ X1.WF ∧ X1.next = X.next ∧ (∀ c, c ≠ 3 → X1.get c = X.get c) ∧ X1.get 3 = some (stBlk (t.setR r (s.reg r))) := by
      refine ⟨?_, ?_, ?_, ?_, ?_, ?_⟩
      rotate_left
      · simp -implicitDefEqProofs +contextual (disch := try first | omega | assumption) [law06_CoreOne.l0, oneFr, g2, g3, stBlk_def, hi, hk', hk1]
        rfl
      · (repeat' (first | assumption | with_reducible apply AHeap.WF.push | with_reducible apply AHeap.WF.set)) <;> (simp <;> omega)
      · simp
      · intro c hc; simp [hc]
      · simp (disch := omega) [stBlk_def]
    obtain ⟨X1, s1, s2, s3, s4, s5⟩ := st
    obtain ⟨X', p1, p2, p3, p4, p5⟩ := ih (k + 1) _ X1 (by omega) s2 (by rw [s4 2 (by omega)]; exact g2) s5
    refine ⟨X', (aloop_step s1).trans p1, p2.trans s3, p3, fun c hc => (p4 c hc).trans (s4 c hc), ?_⟩
    rw [p5, hdr]
    simp [copyR]
def twoFr (px py : Nat) (e d : Int) (w : Bool) (k : Nat) (x : List (Nat × AV)) : AFr := AFr.al ([(7, .ptr 2 13 0 0), (8, .ptr 3 13 0 0), (13, .ptr px 13 0 0), (15, .int .i64 e), (16, .ptr py 13 0 0), (19, .int .i64 d), (20, .bool w), (21, .int .i64 k)] ++ x)
theorem regs_loop (a b xs ys : StM) (px py : Nat) (e dd : Int) (w : Bool) (X : AHeap) (g2 : X.get 2 = some (stBlk a)) (g3 : X.get 3 = some (stBlk b)) (gx : X.get px = some (stBlk xs)) (gy : X.get py = some (stBlk ys))
    (h1 : ∀ r : Nat, r < 8 → w = true → dd = (r : Nat) → e = 0 → xs.reg r = ys.reg r)
    (h2 : ∀ r : Nat, r < 8 → ¬ (w = true ∧ dd = (r : Nat) ∧ e = 0) → xs.reg r = a.reg r ∧ ys.reg r = b.reg r) : ∀ (d k : Nat) (x : List (Nat × AV)), k + d = 8 →
    ∃ fr', aloop oneL1 (twoFr px py e dd w k x) X = some (.exit 2, fr', X) := by
  intro d
  induction d with
  | zero =>
    intro k x h
    obtain rfl : k = 8 := by omega
    refine ⟨_, aloop_exit (by simp) (by simp -implicitDefEqProofs +contextual (disch := omega) [law06_CoreOne.l1, twoFr]; exact rfl)⟩
  | succ d ih =>
    intro k x h
    have hk : k < 8 := by omega
    have hk' : (k : Int) < 8 := by omega
    have hk1 : ((k + 1 : Nat) : Int) = (k : Int) + 1 := by omega
    have st : ∃ y, oneL1 (twoFr px py e dd w k x) X = some (.normal, twoFr px py e dd w (k + 1) y, X) := by
      cases w with
      | false =>
        obtain ⟨v1, v2⟩ := h2 k hk (by simp)
        refine ⟨?_, ?_⟩; rotate_left
        simp -implicitDefEqProofs +contextual (disch := try first | omega | assumption) [law06_CoreOne.l1, twoFr, g2, g3, gx, gy, stBlk_def, hk', hk1, v1, v2]
        rfl
      | true =>
        by_cases q1 : (k : Int) = dd
        · subst q1
          by_cases q2 : e = 0
          · have v := h1 k hk rfl rfl q2
            refine ⟨?_, ?_⟩; rotate_left
            simp -implicitDefEqProofs +contextual (disch := try first | omega | assumption) [law06_CoreOne.l1, twoFr, g2, g3, gx, gy, stBlk_def, hk', hk1, v, q2]
            rfl
          · obtain ⟨v1, v2⟩ := h2 k hk (by simp [q2])
            refine ⟨?_, ?_⟩; rotate_left
            simp -implicitDefEqProofs +contextual (disch := try first | omega | assumption) [law06_CoreOne.l1, twoFr, g2, g3, gx, gy, stBlk_def, hk', hk1, v1, v2, q2]
            rfl
        · obtain ⟨v1, v2⟩ := h2 k hk (fun q => q1 q.2.1.symm)
          refine ⟨?_, ?_⟩; rotate_left
          simp -implicitDefEqProofs +contextual (disch := try first | omega | assumption) [law06_CoreOne.l1, twoFr, g2, g3, gx, gy, stBlk_def, hk', hk1, v1, v2, q1]
          rfl
    obtain ⟨y, s1⟩ := st
    obtain ⟨fr', p1⟩ := ih (k + 1) y (by omega)
    exact ⟨fr', (aloop_step s1).trans p1⟩
end Go.Abs
