/-
  What an instruction reads, and that what it sets hangs on that alone: in plain Lean.
-/
import Derived.Test.YtncablokgkejjaaC7a
set_option linter.unusedSimpArgs false
set_option linter.unusedVariables false
namespace Go.Abs
open Th
def rdD (i : InsM) : Bool := decide (1 ≤ i.op ∧ i.op ≤ 3) || decide (i.op = 13) || decide (i.op = 15) || decide (i.op = 11 ∧ i.imm ≠ 9 ∧ i.imm ≠ 15)
def rdN (i : InsM) : Bool := decide (7 ≤ i.op ∧ i.op ≤ 10) || decide (12 ≤ i.op ∧ i.op ≤ 15)
def rdM (i : InsM) : Bool := decide (4 ≤ i.op ∧ i.op ≤ 8) || decide (i.op = 11) || decide (i.op = 14) || decide (i.op = 15)
def readB (i : InsM) (r : Nat) : Bool := i.can && (rdD i && decide (i.d = r) || rdN i && decide (i.n = r) || rdM i && decide (i.m = r))
structure Agree (i : InsM) (a b : StM) : Prop where
  pc : a.pc = b.pc
  n : a.n = b.n
  z : a.z = b.z
  c : a.c = b.c
  v : a.v = b.v
  reg : ∀ r, r < 8 → readB i r = true → a.reg r = b.reg r
theorem aluM_reg (s : StM) (op : Nat) (a b : BitVec 32) (r : Nat) : (aluM s op a b).1.reg r = s.reg r := by
  unfold aluM; split <;> rfl
theorem reckM_reg (s : StM) (k D N M : Nat) (imm : Int) (r : Nat) : (reckM s k D N M imm).1.reg r = s.reg r := by
  unfold reckM; split <;> first | rfl | exact aluM_reg _ _ _ _ _
theorem reg_setR (s : StM) (D r : Nat) (x : BitVec 32) (hr : r < 8) (h : r ≠ D) : (s.setR D x).reg r = s.reg r := by
  simp only [StM.reg, StM.setR, at0, List.getD_eq_getElem?_getD, List.getElem?_set_ne (Ne.symm h)]
theorem reg_setR_self (s : StM) (D : Nat) (x : BitVec 32) (h : D < 8) : (s.setR D x).reg D = x := by
  have := s.len
  simp [StM.reg, StM.setR, at0, this, h]
theorem aluM_val (a b : StM) (op : Nat) (hop : op ≤ 15) (x y z : BitVec 32) (hc : a.c = b.c) (hx : op ≠ 9 → op < 15 → x = z) : (aluM a op x y).2 = (aluM b op z y).2 := by
  have hx' : op = 9 ∨ op = 15 ∨ x = z := by
    by_cases h : op = 9 ∨ op = 15
    · rcases h with h | h
      · exact .inl h
      · exact .inr (.inl h)
    · exact .inr (.inr (hx (by omega) (by omega)))
  rcases hx' with rfl | rfl | rfl
  · simp only [aluM, addS]
  · simp only [aluM]
  · have ho : op = 0 ∨ op = 1 ∨ op = 2 ∨ op = 3 ∨ op = 4 ∨ op = 5 ∨ op = 6 ∨ op = 7 ∨ op = 8 ∨ op = 9 ∨ op = 10 ∨ op = 11 ∨ op = 12 ∨ op = 13 ∨ op = 14 ∨ op = 15 := by omega
    rcases ho with rfl | rfl | rfl | rfl | rfl | rfl | rfl | rfl | rfl | rfl | rfl | rfl | rfl | rfl | rfl | rfl
    all_goals simp only [aluM, shiftS, addS, hc]
theorem reckM_val (i : InsM) (k D N M : Nat) (imm : Int) (hk : k ≤ 11) (he : i = ⟨(k : Nat), D, N, M, imm⟩) (hcan : i.can = true) (hD : D < 8) (hN : N < 8) (hM : M < 8) (a b : StM) (h : Agree i a b) : (reckM a k D N M imm).2 = (reckM b k D N M imm).2 := by
  have hr := h.reg
  have hc := h.c
  subst he
  have rD : rdD ⟨(k : Nat), D, N, M, imm⟩ = true → a.reg D = b.reg D := fun q => hr D hD (by simp [readB, hcan, q])
  have rN : rdN ⟨(k : Nat), D, N, M, imm⟩ = true → a.reg N = b.reg N := fun q => hr N hN (by simp [readB, hcan, q])
  have rM : rdM ⟨(k : Nat), D, N, M, imm⟩ = true → a.reg M = b.reg M := fun q => hr M hM (by simp [readB, hcan, q])
  clear hr h
  have hi : k = 11 → 0 ≤ imm ∧ imm ≤ 15 := by
    obtain ⟨k', D', N', M', he, _, _, _, _, _, h6⟩ := can_parts _ hcan
    simp only [InsM.mk.injEq] at he
    intro q
    exact h6 (by omega)
  have hk' : k = 0 ∨ k = 1 ∨ k = 2 ∨ k = 3 ∨ k = 4 ∨ k = 5 ∨ k = 6 ∨ k = 7 ∨ k = 8 ∨ k = 9 ∨ k = 10 ∨ k = 11 := by omega
  rcases hk' with rfl | rfl | rfl | rfl | rfl | rfl | rfl | rfl | rfl | rfl | rfl | rfl
  · simp only [reckM]
  · simp only [reckM, addS, rD (by simp [rdD])]
  · simp only [reckM, addS, rD (by simp [rdD])]
  · simp only [reckM, addS, rD (by simp [rdD])]
  · simp only [reckM, shiftS, hc, rM (by simp [rdM])]
  · simp only [reckM, shiftS, hc, rM (by simp [rdM])]
  · simp only [reckM, shiftS, hc, rM (by simp [rdM])]
  · simp only [reckM, addS, rN (by simp [rdN]), rM (by simp [rdM])]
  · simp only [reckM, addS, rN (by simp [rdN]), rM (by simp [rdM])]
  · simp only [reckM, addS, rN (by simp [rdN])]
  · simp only [reckM, addS, rN (by simp [rdN])]
  · have hi := hi rfl
    simp only [reckM]
    rw [rM (by simp [rdM])]
    refine aluM_val _ _ _ (by omega) _ _ _ hc fun h9 h15 => rD ?_
    have q1 : imm ≠ 9 := by omega
    have q2 : imm ≠ 15 := by omega
    simp [rdD, q1, q2]
theorem setPC_pc' (s : StM) (x : BitVec 32) : (s.setPC x).pc = x := rfl
structure OneOk (i : InsM) (a b : StM) (x y : Did) : Prop where
  e : x.e = y.e
  pc : x.s.pc = y.s.pc
  words : x.m.words = y.m.words
  set : ∀ r : Nat, r < 8 → (writesM i).2 = true → (writesM i).1 = (r : Nat) → x.e = 0 → x.s.reg r = y.s.reg r
  rest : ∀ r : Nat, r < 8 → ¬ ((writesM i).2 = true ∧ (writesM i).1 = (r : Nat) ∧ x.e = 0) → x.s.reg r = a.reg r ∧ y.s.reg r = b.reg r
theorem moveM_e (a b : StM) (k D : Nat) (ad : BitVec 32) (m : MemM) (h : a.reg D = b.reg D ∨ ¬ (k = 13 ∨ k = 15)) : (moveM a k D ad m).2 = (moveM b k D ad m).2 := by
  unfold moveM
  split
  · rcases h with h | h
    · rw [h]
    · contradiction
  · rfl
theorem do_one (i : InsM) (hcan : i.can = true) (a b : StM) (m : MemM) (h : Agree i a b) : OneOk i a b (doM i a m) (doM i b m) := by
  obtain ⟨k, D, N, M, he, h1, h2, h3, h4, h5, h6⟩ := can_parts i hcan
  generalize i.imm = imm at he h6
  by_cases hk : k ≤ 11
  · have hD := h2 (by omega)
    have hv := reckM_val i k D N M imm hk he hcan hD h4 h5 a b h
    subst he
    have ha : ∀ s : StM, doM ⟨(k : Nat), D, N, M, imm⟩ s m = ⟨StM.setPC (if (writesM ⟨(k : Nat), D, N, M, imm⟩).2 = true then (reckM s k D N M imm).1.setR D (reckM s k D N M imm).2 else (reckM s k D N M imm).1) (s.pc + 2#32), m, false, 0⟩ := by
      intro s
      unfold doM
      simp only [Int.toNat_natCast]
      split <;> first | omega | rfl
    rw [ha a, ha b]
    have hwd : (writesM ⟨(k : Nat), D, N, M, imm⟩).2 = true → (writesM ⟨(k : Nat), D, N, M, imm⟩).1 = D := by
      unfold writesM; rw [if_pos hcan]; split <;> simp
    refine ⟨rfl, by rw [setPC_pc', setPC_pc', h.pc], rfl, fun r hr q1 q2 _ => ?_, fun r hr q => ?_⟩
    · rw [hwd q1] at q2
      obtain rfl : D = r := by omega
      simp only [q1, if_true, setPC_reg, reg_setR_self _ D _ hD, hv]
    · simp only [setPC_reg]
      by_cases q1 : (writesM ⟨(k : Nat), D, N, M, imm⟩).2 = true
      · have hne : r ≠ D := fun e => q ⟨q1, by rw [hwd q1, e], rfl⟩
        simp only [q1, if_true, reg_setR _ D r _ hr hne, reckM_reg, and_self]
      · simp only [q1, if_false, reckM_reg, and_self, Bool.false_eq_true]
  · subst he
    have hr := h.reg
    have rD : rdD ⟨(k : Nat), D, N, M, imm⟩ = true → D < 8 → a.reg D = b.reg D := fun q hD => hr D hD (by simp [readB, hcan, q])
    have rN : rdN ⟨(k : Nat), D, N, M, imm⟩ = true → a.reg N = b.reg N := fun q => hr N h4 (by simp [readB, hcan, q])
    have rM : rdM ⟨(k : Nat), D, N, M, imm⟩ = true → a.reg M = b.reg M := fun q => hr M h5 (by simp [readB, hcan, q])
    have hk' : k = 12 ∨ k = 13 ∨ k = 14 ∨ k = 15 ∨ k = 16 ∨ k = 17 ∨ k = 18 ∨ k = 19 ∨ k = 20 := by omega
    have hho : holdsN D a = holdsN D b := by simp only [holdsN, holdB, h.z, h.c, h.n, h.v]
    by_cases hm : k ≤ 16
    · have hD := h2 (by omega)
      have had : addrM a k N M imm = addrM b k N M imm := by
        rcases hk' with rfl | rfl | rfl | rfl | rfl | rfl | rfl | rfl | rfl <;> first | omega | skip
        · simp only [addrM]; rw [rN rfl]
        · simp only [addrM]; rw [rN rfl]
        · simp only [addrM]; rw [rN rfl, rM rfl]
        · simp only [addrM]; rw [rN rfl, rM rfl]
        · simp only [addrM]; rw [h.pc]
      have hmv : (moveM a k D (addrM a k N M imm) m).2 = (moveM b k D (addrM b k N M imm) m).2 := by
        rw [had]
        refine moveM_e a b k D _ m ?_
        by_cases q : k = 13 ∨ k = 15
        · rcases q with rfl | rfl
          · exact .inl (rD rfl hD)
          · exact .inl (rD rfl hD)
        · exact .inr q
      have ha : ∀ s : StM, doM ⟨(k : Nat), D, N, M, imm⟩ s m = if (moveM s k D (addrM s k N M imm) m).2.2 = 0 then ⟨(moveM s k D (addrM s k N M imm) m).1.setPC (s.pc + 2#32), (moveM s k D (addrM s k N M imm) m).2.1, false, 0⟩
          else ⟨s, (moveM s k D (addrM s k N M imm) m).2.1, false, (moveM s k D (addrM s k N M imm) m).2.2⟩ := by
        intro s
        unfold doM
        simp only [Int.toNat_natCast]
        rcases hk' with rfl | rfl | rfl | rfl | rfl | rfl | rfl | rfl | rfl <;> first | rfl | omega
      rw [ha a, ha b]
      generalize hA : addrM b k N M imm = ad at *
      rw [had] at hmv ⊢
      have e2 : (moveM a k D ad m).2.2 = (moveM b k D ad m).2.2 := by rw [hmv]
      have e1 : (moveM a k D ad m).2.1 = (moveM b k D ad m).2.1 := by rw [hmv]
      have hwr : (writesM ⟨(k : Nat), D, N, M, imm⟩) = (if k = 13 ∨ k = 15 then (0, false) else ((D : Int), true)) := by
        unfold writesM; rw [if_pos hcan]
        by_cases q : k = 13 ∨ k = 15
        · rw [if_pos q, if_pos (by dsimp only; omega)]
        · rw [if_neg q, if_neg (by dsimp only; omega)]
      by_cases h0 : (moveM b k D ad m).2.2 = 0
      · rw [if_pos (by rw [e2]; exact h0), if_pos h0]
        refine ⟨rfl, by rw [setPC_pc', setPC_pc', h.pc], by rw [e1], fun r hr' q1 q2 _ => ?_, fun r hr' q => ?_⟩
        · rw [hwr] at q1 q2
          by_cases hq : k = 13 ∨ k = 15
          · rw [if_pos hq] at q1; cases q1
          · rw [if_neg hq] at q2
            dsimp only at q2
            obtain rfl : D = r := by omega
            have hl0 : (m.loads ad).1.2 = 0 := by unfold moveM at h0; rw [if_neg hq] at h0; exact h0
            simp only [setPC_reg, moveM, hq, if_false, hl0, if_true, reg_setR_self _ D _ hD]
        · rw [hwr] at q
          by_cases hq : k = 13 ∨ k = 15
          · simp only [setPC_reg, moveM, hq, if_true, and_self]
          · rw [if_neg hq] at q
            have hne : r ≠ D := fun e => q ⟨rfl, by dsimp only; omega, rfl⟩
            have hl0 : (m.loads ad).1.2 = 0 := by unfold moveM at h0; rw [if_neg hq] at h0; exact h0
            simp only [setPC_reg, moveM, hq, if_false, hl0, if_true, reg_setR _ D r _ hr' hne, and_self]
      · rw [if_neg (by rw [e2]; exact h0), if_neg h0]
        exact ⟨e2, h.pc, by rw [e1], fun r _ _ _ q => (h0 (by rw [← e2]; exact q)).elim, fun r _ _ => ⟨rfl, rfl⟩⟩
    · have hwr : (writesM ⟨(k : Nat), D, N, M, imm⟩).2 = false := by
        unfold writesM; rw [if_pos hcan, if_pos (by dsimp only; omega)]
      rcases hk' with rfl | rfl | rfl | rfl | rfl | rfl | rfl | rfl | rfl <;> first | omega | skip
      all_goals
        refine ⟨rfl, ?_, rfl, fun r _ q1 => (by rw [hwr] at q1; cases q1), fun r _ _ => ⟨rfl, rfl⟩⟩
        simp only [doM, Int.toNat_natCast, setPC_pc', h.pc, hho]
theorem step_one (i : InsM) (hcan : i.can = true) (a b : StM) (m : MemM) (h : Agree i a b) (w : BitVec 16) (hf : m.fetch a.pc = (w, 0)) (ht : takeN w.toNat = (i, 0)) : OneOk i a b (stepM a m) (stepM b m) := by
  have ha : stepM a m = doM i a m := by unfold stepM; rw [hf, if_pos rfl]; dsimp only; rw [ht, if_pos rfl]
  have hb : stepM b m = doM i b m := by unfold stepM; rw [← h.pc, hf, if_pos rfl]; dsimp only; rw [ht, if_pos rfl]
  rw [ha, hb]
  exact do_one i hcan a b m h
end Go.Abs
