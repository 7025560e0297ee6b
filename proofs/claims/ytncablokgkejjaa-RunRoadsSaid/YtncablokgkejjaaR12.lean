/-
  The laws of runs: roads and cycles, the program's.
-/
import Derived.Test.YtncablokgkejjaaR11
set_option linter.unusedSimpArgs false
set_option linter.unusedVariables false
namespace Go.Abs
open Th
noncomputable abbrev eqL := slices_EqualFunc_bauta_api_Leak.l0 leak_Same.spec
theorem eqf_loop (g : FuncId) (hg : slices_EqualFunc_bauta_api_Leak.C leak_Same.spec g = some (.pure false leak_Same.spec)) (a b : List LeakM) (hl : a.length = b.length) (hm : a.length ≤ 1048576) : ∀ (d k : Nat) (X : AHeap), k + d = a.length →
    ∃ e fr' X', aloop eqL (AFr.al [(1, .rsl 10 (lrows b)), (2, .clo g [] []), (15, .rsl 10 (lrows a)), (16, .int .i64 a.length), (17, .int .i64 k)]) X = some (e, fr', X') ∧
      ((roadM (a.drop k) (b.drop k) = true ∧ e = .exit 0) ∨ (roadM (a.drop k) (b.drop k) = false ∧ e = .ret ∧ fr' 6 = .bool false))
  | 0, k, X, h => by
    obtain rfl : k = a.length := by omega
    refine ⟨_, _, _, aloop_exit (e := .exit 0) (by simp) (by simp -implicitDefEqProofs +contextual (disch := omega) [eqL, slices_EqualFunc_bauta_api_Leak.l0]; exact ⟨rfl, rfl⟩), .inl ⟨?_, rfl⟩⟩
    rw [List.drop_length, hl, List.drop_length]; rfl
  | d + 1, k, X, h => by
    have h1 : (k : Int) < (a.length : Int) := by omega
    have h1' : (k : Int) < (b.length : Int) := by omega
    have hx : a[k]? = some (a[k]'(by omega)) := List.getElem?_eq_getElem _
    have hy : b[k]? = some (b[k]'(by omega)) := List.getElem?_eq_getElem _
    have h2 := lrows_at a k _ hx
    have h3 := lrows_at b k _ hy
    have hC := Same_eq (a[k]'(by omega)) (b[k]'(by omega))
    rw [roadM_drop a b k _ _ hx hy]
    generalize a[k]'(by omega) = x at *
    generalize b[k]'(by omega) = y at *
    simp only [LeakM.cells] at hC
    cases hs : sameM x y with
    | false =>
      rw [hs] at hC
      refine ⟨_, _, _, aloop_exit (e := .ret) (by simp) (by simp -implicitDefEqProofs +contextual (disch := omega) [eqL, slices_EqualFunc_bauta_api_Leak.l0, h1, h1', h2, h3, hC, acallClo, hg, acallR]; exact ⟨rfl, rfl⟩), .inr ⟨by simp, rfl, rfl⟩⟩
    | true =>
      rw [hs] at hC
      have st : ∃ X', eqL (AFr.al [(1, .rsl 10 (lrows b)), (2, .clo g [] []), (15, .rsl 10 (lrows a)), (16, .int .i64 a.length), (17, .int .i64 k)]) X = some (.normal, AFr.al [(1, .rsl 10 (lrows b)), (2, .clo g [] []), (15, .rsl 10 (lrows a)), (16, .int .i64 a.length), (17, .int .i64 (k + 1 : Nat))], X') := by
        refine ⟨?_, ?_⟩
        rotate_left
        · simp -implicitDefEqProofs +contextual (disch := omega) [eqL, slices_EqualFunc_bauta_api_Leak.l0, h1, h1', h2, h3, hC, acallClo, hg, acallR]
          rfl
      obtain ⟨X1, st⟩ := st
      obtain ⟨e, fr', X', q1, q2⟩ := eqf_loop g hg a b hl hm d (k + 1) X1 (by omega)
      exact ⟨e, fr', X', (aloop_step st).trans q1, by simpa using q2⟩
theorem forget_b (X : AHeap) (v : Bool) : forget AHeap.empty (some ([.bool v], X)) = some (.bool v, AHeap.empty) := forget_eq AHeap.WF.empty (Nat.zero_le _) (fun c hc => absurd hc (Nat.not_lt_zero c)) rfl
theorem Road_eq (a b : List LeakM) (hm : a.length ≤ 1048576) : run_Road.spec [.rsl 10 (lrows a), .rsl 10 (lrows b)] = some (.bool (roadM a b)) := by
  by_cases hl : a.length = b.length
  · obtain ⟨e, fr', X', h1, h2⟩ := eqf_loop 31 rfl a b hl hm a.length 0 AHeap.empty (by omega)
    simp only [List.drop_zero] at h2
    rw [show ((0 : Nat) : Int) = 0 from rfl] at h1
    unfold eqL at h1
    rw [hl] at h1
    rcases h2 with ⟨q1, rfl⟩ | ⟨q1, rfl, q2⟩
    · rw [q1]
      simp -implicitDefEqProofs +contextual (disch := omega) [run_Road.spec, run_Road, slices_EqualFunc_bauta_api_Leak.spec, slices_EqualFunc_bauta_api_Leak, hl, h1, forget_b]
    · rw [q1]
      simp -implicitDefEqProofs +contextual (disch := omega) [run_Road.spec, run_Road, slices_EqualFunc_bauta_api_Leak.spec, slices_EqualFunc_bauta_api_Leak, hl, h1, q2, forget_b]
  · have : roadM a b = false := by
      cases h : roadM a b with
      | false => rfl
      | true => exact (hl (roadM_len a b h)).elim
    have hl' : ¬ (a.length : Int) = (b.length : Int) := by omega
    rw [this]
    simp -implicitDefEqProofs +contextual (disch := omega) [run_Road.spec, run_Road, slices_EqualFunc_bauta_api_Leak.spec, slices_EqualFunc_bauta_api_Leak, hl', forget_b]
def leapM (l : LeakM) : Bool := decide (l.code.toNat / 2048 = 28) || decide (l.code.toNat / 4096 = 13)
def cycM : List LeakM → Nat
  | [] => 0
  | [l] => if l.memory = true then 2 else 1
  | l :: l' :: r => (if l.memory = true then 2 else if leapM l = true ∧ l'.pc ≠ l.pc + 2#32 then 3 else 1) + cycM (l' :: r)
theorem cycM_last (a : List LeakM) (k : Nat) (l : LeakM) (hl : a[k]? = some l) (hn : a.length = k + 1) : cycM (a.drop k) = if l.memory = true then 2 else 1 := by
  obtain ⟨h1, e1⟩ := List.getElem?_eq_some_iff.1 hl
  rw [List.drop_eq_getElem_cons h1, e1, List.drop_eq_nil_of_le (by omega)]
  rfl
theorem cycM_next (a : List LeakM) (k : Nat) (l l' : LeakM) (hl : a[k]? = some l) (hn : a[k + 1]? = some l') : cycM (a.drop k) = (if l.memory = true then 2 else if leapM l = true ∧ l'.pc ≠ l.pc + 2#32 then 3 else 1) + cycM (a.drop (k + 1)) := by
  obtain ⟨h1, e1⟩ := List.getElem?_eq_some_iff.1 hl
  obtain ⟨h2, e2⟩ := List.getElem?_eq_some_iff.1 hn
  rw [List.drop_eq_getElem_cons h1, e1, List.drop_eq_getElem_cons h2, e2]
  rfl
theorem cyc_step (a : List LeakM) (hm : a.length ≤ 1048576) (k : Nat) (hk : k < a.length) (c : Nat) (hc : c ≤ 3 * k) (X : AHeap) :
    ∃ (c' : Nat) (X' : AHeap), run_Cycles.l0 (AFr.al [(0, .rsl 10 (lrows a)), (3, .int .i64 c), (7, .rsl 10 (lrows a)), (8, .int .i64 a.length), (9, .int .i64 k)]) X =
      some (.normal, AFr.al [(0, .rsl 10 (lrows a)), (3, .int .i64 c'), (7, .rsl 10 (lrows a)), (8, .int .i64 a.length), (9, .int .i64 (k + 1 : Nat))], X') ∧ c' ≤ 3 * (k + 1) ∧ c + cycM (a.drop k) = c' + cycM (a.drop (k + 1)) := by
  have h1 : (k : Int) < (a.length : Int) := by omega
  have hx : a[k]? = some (a[k]'(by omega)) := List.getElem?_eq_getElem _
  have h2 := lrows_at a k _ hx
  have hs11 : ∀ x : BitVec 16, (x >>> 11 == 28#16) = decide (x.toNat / 2048 = 28) := fun x => by
    rw [Bool.eq_iff_iff, beq_iff_eq, decide_eq_true_eq, BitVec.toNat_eq, BitVec.toNat_ushiftRight, Nat.shiftRight_eq_div_pow]; rfl
  have hs12 : ∀ x : BitVec 16, (x >>> 12 == 13#16) = decide (x.toNat / 4096 = 13) := fun x => by
    rw [Bool.eq_iff_iff, beq_iff_eq, decide_eq_true_eq, BitVec.toNat_eq, BitVec.toNat_ushiftRight, Nat.shiftRight_eq_div_pow]; rfl
  by_cases hlast : a.length = k + 1
  · have hc := cycM_last a k _ hx hlast
    have hz : cycM (a.drop (k + 1)) = 0 := by rw [List.drop_eq_nil_of_le (by omega)]; rfl
    generalize a[k]'(by omega) = l at *
    have h3 : ¬ (k : Int) + 1 < (a.length : Int) := by omega
    cases hme : l.memory with
    | true =>
      rw [hme] at h2 hc
      refine ⟨c + 2, ?_, ?_, by omega, by rw [hc, hz]; simp⟩
      rotate_left
      · simp -implicitDefEqProofs +contextual (disch := omega) [run_Cycles.l0, h1, h2, h3]
        rfl
    | false =>
      rw [hme] at h2 hc
      refine ⟨c + 1, ?_, ?_, by omega, by rw [hc, hz]; simp⟩
      rotate_left
      · simp -implicitDefEqProofs +contextual (disch := omega) [run_Cycles.l0, h1, h2, h3]
        rfl
  · have hy : a[k + 1]? = some (a[k + 1]'(by omega)) := List.getElem?_eq_getElem _
    have hc := cycM_next a k _ _ hx hy
    have h2' := lrows_at a (k + 1) _ hy
    generalize a[k]'(by omega) = l at *
    generalize a[k + 1]'(by omega) = l' at *
    have h3 : (k : Int) + 1 < (a.length : Int) := by omega
    have ek : ((k : Int) + 1).toNat = k + 1 := by omega
    cases hme : l.memory with
    | true =>
      rw [hme] at h2 hc
      refine ⟨c + 2, ?_, ?_, by omega, by rw [hc]; simp; omega⟩
      rotate_left
      · simp -implicitDefEqProofs +contextual (disch := omega) [run_Cycles.l0, h1, h2, h3]
        rfl
    | false =>
      rw [hme] at h2 hc
      by_cases hb1 : l.code.toNat / 2048 = 28
      · by_cases hp : l'.pc = l.pc + 2#32
        · refine ⟨c + 1, ?_, ?_, by omega, by rw [hc]; simp [leapM, hb1, hp]; omega⟩
          rotate_left
          · simp -implicitDefEqProofs +contextual (disch := omega) [run_Cycles.l0, h1, h2, h2', h3, hs11, hs12, hb1, hp, ek]
            rfl
        · refine ⟨c + 3, ?_, ?_, by omega, by rw [hc]; simp [leapM, hb1, hp]; omega⟩
          rotate_left
          · simp -implicitDefEqProofs +contextual (disch := omega) [run_Cycles.l0, h1, h2, h2', h3, hs11, hs12, hb1, hp, ek]
            rfl
      · by_cases hb2 : l.code.toNat / 4096 = 13
        · by_cases hp : l'.pc = l.pc + 2#32
          · refine ⟨c + 1, ?_, ?_, by omega, by rw [hc]; simp [leapM, hb1, hb2, hp]; omega⟩
            rotate_left
            · simp -implicitDefEqProofs +contextual (disch := omega) [run_Cycles.l0, h1, h2, h2', h3, hs11, hs12, hb1, hb2, hp, ek]
              rfl
          · refine ⟨c + 3, ?_, ?_, by omega, by rw [hc]; simp [leapM, hb1, hb2, hp]; omega⟩
            rotate_left
            · simp -implicitDefEqProofs +contextual (disch := omega) [run_Cycles.l0, h1, h2, h2', h3, hs11, hs12, hb1, hb2, hp, ek]
              rfl
        · refine ⟨c + 1, ?_, ?_, by omega, by rw [hc]; simp [leapM, hb1, hb2]; omega⟩
          rotate_left
          · simp -implicitDefEqProofs +contextual (disch := omega) [run_Cycles.l0, h1, h2, h2', h3, hs11, hs12, hb1, hb2, ek]
            rfl
theorem Cycles_eq (a : List LeakM) (hm : a.length ≤ 1048576) : run_Cycles.spec [.rsl 10 (lrows a)] = some (.int .i64 (cycM a : Nat)) := by
  have key : ∀ (d k c : Nat) (X : AHeap), k + d = a.length → c ≤ 3 * k → ∃ (fr' : AFr) (X' : AHeap), aloop run_Cycles.l0 (AFr.al [(0, .rsl 10 (lrows a)), (3, .int .i64 c), (7, .rsl 10 (lrows a)), (8, .int .i64 a.length), (9, .int .i64 k)]) X = some (.exit 0, fr', X') ∧ fr' 3 = .int .i64 ((c + cycM (a.drop k) : Nat) : Int) := by
    intro d
    induction d with
    | zero =>
      intro k c X h _
      obtain rfl : k = a.length := by omega
      refine ⟨_, _, aloop_exit (by simp) (by simp -implicitDefEqProofs +contextual (disch := omega) [run_Cycles.l0]; exact ⟨rfl, rfl⟩), ?_⟩
      rw [List.drop_length]; rfl
    | succ d ih =>
      intro k c X h hc
      obtain ⟨c', X1, q1, q2, q3⟩ := cyc_step a hm k (by omega) c hc X
      obtain ⟨fr', X', p1, p2⟩ := ih (k + 1) c' X1 (by omega) q2
      exact ⟨fr', X', (aloop_step q1).trans p1, by rw [p2, q3]⟩
  obtain ⟨fr', X', h1, h2⟩ := key a.length 0 0 AHeap.empty (by omega) (by omega)
  rw [show ((0 : Nat) : Int) = 0 from rfl] at h1
  simp only [List.drop_zero, Nat.zero_add] at h2
  simp -implicitDefEqProofs +contextual (disch := omega) [run_Cycles.spec, run_Cycles, h1, h2]
end Go.Abs
