/-
  The iterator over pairs hands over all pairs.
-/
import Derived.Test.YthignlpdeaglaaaItF
import Derived.Test.YthignlpdeaglaaaP0
import Derived.Shelf.Abstract
import Derived.WalkKit
import Derived.OwnWalkIn
import Derived.TacticsInMore
import Derived.LoopNIn
import Derived.LoopIn
namespace Go.Abs
def cntP (d i : Nat) : Nat := ((List.range i).flatMap (rowAV d)).length
theorem cntP_zero (d : Nat) : cntP d 0 = 0 := rfl
theorem cntP_succ (d i : Nat) : cntP d (i + 1) = cntP d i + (d - i) := by
  unfold cntP; rw [List.range_succ, List.flatMap_append, List.length_append]; simp [rowAV]
theorem pairs_get (d i j : Nat) (hi : i < j) (hj : j ≤ d) : (pairsAV d)[cntP d i + (j - (i + 1))]? = some [.int .i64 (i : Nat), .int .i64 (j : Nat)] := by
  unfold pairsAV
  obtain ⟨m, hm⟩ : ∃ m, d + 1 = i + (m + 1) := ⟨d - i, by omega⟩
  rw [hm, List.range_add, List.flatMap_append, List.getElem?_append_right (by unfold cntP; omega)]
  unfold cntP
  rw [Nat.add_sub_cancel_left, List.range_succ_eq_map, List.map_cons, List.flatMap_cons, Nat.add_zero, List.getElem?_append_left (by simp [rowAV]; omega)]
  have h1 : j - (i + 1) < d - i := by omega
  simp only [rowAV, List.getElem?_map, List.getElem?_range' h1, Option.map_some]
  have : i + 1 + 1 * (j - (i + 1)) = j := by omega
  rw [this]
theorem pairs_inj {a b : Nat} (ha : a ≤ 6) (hb : b ≤ 6) (h : pairsAV a = pairsAV b) : a = b := by
  have hl := congrArg List.length h
  have e : ∀ n, n ≤ 6 → (pairsAV n).length = n * (n + 1) / 2 := fun n hn => by
    have : n = 0 ∨ n = 1 ∨ n = 2 ∨ n = 3 ∨ n = 4 ∨ n = 5 ∨ n = 6 := by omega
    rcases this with rfl | rfl | rfl | rfl | rfl | rfl | rfl <;> rfl
  rw [e a ha, e b hb] at hl
  have h1 : a = 0 ∨ a = 1 ∨ a = 2 ∨ a = 3 ∨ a = 4 ∨ a = 5 ∨ a = 6 := by omega
  have h2 : b = 0 ∨ b = 1 ∨ b = 2 ∨ b = 3 ∨ b = 4 ∨ b = 5 ∨ b = 6 := by omega
  rcases h1 with rfl | rfl | rfl | rfl | rfl | rfl | rfl <;> rcases h2 with rfl | rfl | rfl | rfl | rfl | rfl | rfl <;> first | rfl | (simp at hl; done)
theorem pairs_reads {caps : List AV} {xs : List (List AV)} {H : AHeap} (h : isw_pairs_1.spec caps H = some xs) : ∃ b e f d, caps = [.ptr b 1 0 0] ∧ d ≤ 6 ∧ xs = pairsAV d ∧ H.get b = some ⟨e, 1, f, [[.int .i64 (d : Nat)]]⟩ := by
  unfold isw_pairs_1.spec at h
  split at h <;> try (cases h; done)
  rename_i b
  split at h <;> try (cases h; done)
  rename_i e f d hg
  split at h <;> try (cases h; done)
  rename_i hd
  simp only [Option.some.injEq] at h
  refine ⟨b, e, f, d.toNat, rfl, by omega, h.symm, ?_⟩
  rw [Int.toNat_of_nonneg hd.1]; exact hg
open Go.RowKit Go.Shelf in
theorem isw_pairs_1.hands : Hands Go.Proofs.Try.prog 68 isw_pairs_1.spec := by
  intro caps xs us l J Jx W hspec hJ hJx hY h0
  obtain ⟨F0, m0, H0, I0, R0, hs⟩ := hspec 0 W h0
  obtain ⟨b, e, f, d, rfl, hd, rfl, hg⟩ := pairs_reads hs
  obtain ⟨B, rfl⟩ : ∃ B, us = #[.pointer (some ⟨B, 0, none⟩)] := by
    have hl : us.size = 1 := by have := R0.1; simp at this; exact this.symm
    have h1 := R0.2 0 (.ptr b 1 0 0) us[0] rfl (by simp [hl])
    generalize hu : us[0] = u at h1
    cases h1
    refine ⟨m0 b, ?_⟩
    apply Array.ext
    · simp [hl]
    · intro i h1 h2
      obtain rfl : i = 0 := by omega
      simpa using hu
  have hcell : ∀ k A, J k A → A.cell? ⟨B, 0, none⟩ = some (.int .i64 d) := by
    intro k A hA
    obtain ⟨F1, m1, H1, I1, R1, hs1⟩ := hspec k A hA
    obtain ⟨b', e', f', d', hb', hd', hx', hg'⟩ := pairs_reads hs1
    simp only [List.cons.injEq, AV.ptr.injEq, and_true] at hb'
    subst hb'
    obtain rfl := pairs_inj hd hd' hx'
    have h1 := R1.2 0 (.ptr b 1 0 0) (.pointer (some ⟨B, 0, none⟩)) rfl rfl
    have hB : m1 b = B := by cases h1; rfl
    obtain ⟨c, hc, hr⟩ := I1.blk b _ hg'
    obtain ⟨v, q1, q2, q3⟩ := hr.cell 0 [.int .i64 (d : Nat)] 0 (.int .i64 (d : Nat)) rfl rfl
    cases q3
    rw [hB] at hc
    rw [cell_of_row A B 0 c e' (0, 0) hc]
    simpa using q1
  refine callsIn_of_wp Go.Proofs.Try.func68 rfl trivial ?_ rfl
  have hnt : Go.Proofs.Try.f68.ntmps = 22 := by kernel_rfl
  simp only [hnt, List.size_toArray, List.length_cons, List.length_nil, Nat.reduceAdd, Nat.reduceSub, Array.replicate_succ, Array.replicate_zero, List.push_toArray, List.append_toArray, List.nil_append, List.cons_append]
  gi_wp2
  gi_loopw [3] (fun p wr => ∃ i : Nat, p = .int .i64 i ∧ i ≤ d + 1 ∧ J (cntP d i) wr) (fun p _ => (d + 1) - (intOf p).toNat)
  case atStart => exact ⟨0, rfl, by omega, by rw [cntP_zero]; exact h0⟩
  case round =>
    obtain ⟨i, rfl, hi, hJs⟩ := hrel
    have hc := hcell _ _ hJs
    by_cases hid : i ≤ d
    · have hid' : (i : Int) ≤ d := by omega
      gi_wp2
      gi_loopw [4] (fun p wr => ∃ j : Nat, p = .int .i64 j ∧ i < j ∧ j ≤ d + 1 ∧ J (cntP d i + (j - (i + 1))) wr) (fun p _ => (d + 1) - (intOf p).toNat)
      case atStart => exact ⟨i + 1, by simp, by omega, by omega, by simpa using hJs⟩
      case round =>
        obtain ⟨j, rfl, hij, hj, hJ2⟩ := hrel
        have hc2 := hcell _ _ hJ2
        by_cases hjd : j ≤ d
        · have hjd' : (j : Int) ≤ d := by omega
          obtain ⟨fn, tmps, assign, body, hy, hR⟩ := hY _ _ wr (pairs_get d i j hij hjd) hJ2
          simp only [List.map_cons, List.map_nil, AV.toVal] at hy
          gi_wp2
          refine ⟨rfl, hR.mono ?_⟩
          rintro e1 W2 (⟨rfl, hJ3⟩ | ⟨rfl, hx3⟩)
          · gi_wp2
            refine ⟨⟨j + 1, by simp, by omega, by omega, ?_⟩, ?_⟩
            · have hx : cntP d i + (j + 1 - (i + 1)) = cntP d i + (j - (i + 1)) + 1 := by omega
              rw [hx]; exact hJ3
            · simp only [intOf]; omega
          · gi_wp2
            refine bodyPost_ret (results_none rfl _ _ _) rfl ?_
            exact ⟨⟨_, rfl⟩, .inr hx3⟩
        · have hjd' : ¬ (j : Int) ≤ d := by omega
          gi_wp2
          refine ⟨⟨i + 1, by simp, by omega, ?_⟩, ?_⟩
          · rw [cntP_succ]
            have hx : d - i = j - (i + 1) := by omega
            rw [hx]; exact hJ2
          · simp only [intOf]; omega
    · have hid' : ¬ (i : Int) ≤ d := by omega
      gi_wp2
      go_end0
      exact ⟨⟨_, rfl⟩, .inl (by have hx : i = d + 1 := (by omega); subst hx; exact hJs)⟩
theorem isw_pairs_1.sound : Sound Go.Proofs.Try.prog 68 (.iter isw_pairs_1.spec) := ⟨fun args w => Go.Proofs.Try.call68 args w, isw_pairs_1.hands⟩
end Go.Abs
