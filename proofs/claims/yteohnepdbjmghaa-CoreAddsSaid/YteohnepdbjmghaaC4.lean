/-
  What instructions do: the program's step. Printed by genc4.py.
-/
import Derived.Test.YteohnepdbjmghaaCA
set_option linter.unusedSimpArgs false
set_option linter.unusedVariables false
namespace Go.Abs
open Th
def writesM (i : InsM) : Int × Bool :=
  if i.can = true then (if i.op = 1 ∨ i.op = 13 ∨ i.op = 15 ∨ 17 ≤ i.op ∨ (i.op = 11 ∧ (i.imm = 8 ∨ i.imm = 10 ∨ i.imm = 11)) then (0, false) else (i.d, true)) else (0, false)
theorem Writes_eq (i : InsM) : thumb_Writes.spec [InsAV i] = some (.tup [.int .i64 (writesM i).1, .bool (writesM i).2]) := by
  have hc := can_eq i
  unfold writesM
  by_cases h : i.can = true
  · have h1 := ((can_iff i).1 h).1
    obtain ⟨op, d, n, m, imm⟩ := i
    rw [if_pos h]
    rw [h] at hc
    simp only [InsAV] at hc ⊢
    dsimp only at h1 ⊢
    obtain ⟨k, rfl⟩ : ∃ k : Nat, op = k := ⟨op.toNat, by omega⟩
    have hk : k = 0 ∨ k = 1 ∨ k = 2 ∨ k = 3 ∨ k = 4 ∨ k = 5 ∨ k = 6 ∨ k = 7 ∨ k = 8 ∨ k = 9 ∨ k = 10 ∨ k = 11 ∨ k = 12 ∨ k = 13 ∨ k = 14 ∨ k = 15 ∨ k = 16 ∨ k = 17 ∨ k = 18 ∨ k = 19 ∨ k = 20 := by omega
    rcases hk with rfl | rfl | rfl | rfl | rfl | rfl | rfl | rfl | rfl | rfl | rfl | rfl | rfl | rfl | rfl | rfl | rfl | rfl | rfl | rfl | rfl
    case inr.inr.inr.inr.inr.inr.inr.inr.inr.inr.inr.inl =>
      push_cast at hc ⊢
      by_cases a8 : imm = 8
      · subst a8; simp -implicitDefEqProofs +contextual (disch := omega) [thumb_Writes.spec, thumb_Writes, hc]
      · by_cases a10 : imm = 10
        · subst a10; simp -implicitDefEqProofs +contextual (disch := omega) [thumb_Writes.spec, thumb_Writes, hc]
        · by_cases a11 : imm = 11
          · subst a11; simp -implicitDefEqProofs +contextual (disch := omega) [thumb_Writes.spec, thumb_Writes, hc]
          · simp -implicitDefEqProofs +contextual (disch := omega) [thumb_Writes.spec, thumb_Writes, hc, a8, a10, a11]
    all_goals
      push_cast at hc ⊢
      simp -implicitDefEqProofs +contextual (disch := omega) [thumb_Writes.spec, thumb_Writes, hc]
  · rw [if_neg h]
    simp only [InsAV] at hc ⊢
    simp -implicitDefEqProofs +contextual (disch := omega) [thumb_Writes.spec, thumb_Writes, hc, h]
structure Did where
  s : StM
  m : MemM
  stop : Bool
  e : Int
def doM (i : InsM) (s : StM) (m : MemM) : Did :=
  match i.op.toNat with
  | 20 => ⟨s, m, true, 0⟩
  | 19 => ⟨s.setPC (s.pc + 2#32), m, false, 0⟩
  | 18 => ⟨s.setPC (if holdsN i.d.toNat s = true then s.pc + 4#32 + 2#32 * immW i.imm else s.pc + 2#32), m, false, 0⟩
  | 17 => ⟨s.setPC (s.pc + 4#32 + 2#32 * immW i.imm), m, false, 0⟩
  | 12 | 13 | 14 | 15 | 16 =>
    if (moveM s i.op.toNat i.d.toNat (addrM s i.op.toNat i.n.toNat i.m.toNat i.imm) m).2.2 = 0 then
      ⟨(moveM s i.op.toNat i.d.toNat (addrM s i.op.toNat i.n.toNat i.m.toNat i.imm) m).1.setPC (s.pc + 2#32), (moveM s i.op.toNat i.d.toNat (addrM s i.op.toNat i.n.toNat i.m.toNat i.imm) m).2.1, false, 0⟩
    else ⟨s, (moveM s i.op.toNat i.d.toNat (addrM s i.op.toNat i.n.toNat i.m.toNat i.imm) m).2.1, false, (moveM s i.op.toNat i.d.toNat (addrM s i.op.toNat i.n.toNat i.m.toNat i.imm) m).2.2⟩
  | k => ⟨StM.setPC (if (writesM i).2 = true then (reckM s k i.d.toNat i.n.toNat i.m.toNat i.imm).1.setR i.d.toNat (reckM s k i.d.toNat i.n.toNat i.m.toNat i.imm).2 else (reckM s k i.d.toNat i.n.toNat i.m.toNat i.imm).1) (s.pc + 2#32), m, false, 0⟩
def stepM (s : StM) (m : MemM) : Did :=
  if (m.fetch s.pc).2 = 0 then (if (takeN (m.fetch s.pc).1.toNat).2 = 0 then doM (takeN (m.fetch s.pc).1.toNat).1 s m else ⟨s, m, false, (takeN (m.fetch s.pc).1.toNat).2⟩) else ⟨s, m, false, (m.fetch s.pc).2⟩
def DidAV (x : Did) : AV := .tup [.agg x.s.cells, .bool x.stop, .int .i64 x.e]
theorem reck_any (k : Nat) (hk : k ≤ 11) (s : StM) (D N M : Nat) (hD : D < 8) (hN : N < 8) (hM : M < 8) (imm : Int) (hi : k = 11 → 0 ≤ imm ∧ imm ≤ 15) : core_reckons.spec [.agg s.cells, .agg [.int .i64 (k : Nat), .int .i64 D, .int .i64 N, .int .i64 M, .int .i64 imm]] = some (.tup [.agg (reckM s k D N M imm).1.cells, W32 (reckM s k D N M imm).2]) := by
  match k, hk with
  | 0, _ => exact reck0 s D N M hD hN hM imm
  | 1, _ => exact reck1 s D N M hD hN hM imm
  | 2, _ => exact reck2 s D N M hD hN hM imm
  | 3, _ => exact reck3 s D N M hD hN hM imm
  | 4, _ => exact reck4 s D N M hD hN hM imm
  | 5, _ => exact reck5 s D N M hD hN hM imm
  | 6, _ => exact reck6 s D N M hD hN hM imm
  | 7, _ => exact reck7 s D N M hD hN hM imm
  | 8, _ => exact reck8 s D N M hD hN hM imm
  | 9, _ => exact reck9 s D N M hD hN hM imm
  | 10, _ => exact reck10 s D N M hD hN hM imm
  | 11, _ => exact reck11 s D N M hD hN hM imm (hi rfl)
theorem move_any (k : Nat) (h1 : 12 ≤ k) (hk : k ≤ 16) (B : AHeap) (b wb : Nat) (m : MemM) (hw : B.WF) (hb : b < B.next) (hwb : wb < B.next) (hbw : b ≠ wb) (hm : m.Ok) (s : StM) (D N M : Nat) (hD : D < 8) (hN : N < 8) (hM : M < 8) (imm : Int) : core_moves.spec [.agg s.cells, .agg [.int .i64 (k : Nat), .int .i64 D, .int .i64 N, .int .i64 M, .int .i64 imm], .ptr b 5 0 0] (B.mem b wb m) =
    some (.tup [.agg (moveM s k D (addrM s k N M imm) m).1.cells, .int .i64 (moveM s k D (addrM s k N M imm) m).2.2], B.mem b wb (moveM s k D (addrM s k N M imm) m).2.1) := by
  obtain rfl | rfl | rfl | rfl | rfl : k = 12 ∨ k = 13 ∨ k = 14 ∨ k = 15 ∨ k = 16 := by omega
  · exact move12 B b wb m hw hb hwb hbw hm s D N M hD hN hM imm
  · exact move13 B b wb m hw hb hwb hbw hm s D N M hD hN hM imm
  · exact move14 B b wb m hw hb hwb hbw hm s D N M hD hN hM imm
  · exact move15 B b wb m hw hb hwb hbw hm s D N M hD hN hM imm
  · exact move16 B b wb m hw hb hwb hbw hm s D N M hD hN hM imm
set_option maxHeartbeats 4000000 in
theorem step_low (k : Nat) (hk : k ≤ 11) (B : AHeap) (b wb : Nat) (m : MemM) (hw : B.WF) (hb : b < B.next) (hwb : wb < B.next) (hbw : b ≠ wb) (hm : m.Ok) (s : StM) (D N M : Nat) (hD : D < 8) (hN : N < 8) (hM : M < 8) (imm : Int) (hi : k = 11 → 0 ≤ imm ∧ imm ≤ 15) (hc : (InsM.mk (k : Nat) D N M imm).can = true) (h : BitVec 16) (hf : m.fetch s.pc = (h, 0)) (ht : takeN h.toNat = (⟨(k : Nat), D, N, M, imm⟩, 0)) :
    core_Step.spec [.agg s.cells, .ptr b 5 0 0] (B.mem b wb m) = some (DidAV (doM ⟨(k : Nat), D, N, M, imm⟩ s m), B.mem b wb (doM ⟨(k : Nat), D, N, M, imm⟩ s m).m) := by
  have hT := Take_eq h
  have hW := Writes_eq ⟨(k : Nat), D, N, M, imm⟩
  have hF := fun (B : AHeap) (h1 : B.WF) (h2 : b < B.next) (h3 : wb < B.next) => Fetch_eq B b wb m h1 h2 h3 s.pc hm
  rw [hf] at hF
  rw [ht] at hT
  simp only [InsAV] at hT hW
  unfold DidAV
  have hR := reck_any k hk s D N M hD hN hM imm hi
  have hdo : doM ⟨(k : Nat), D, N, M, imm⟩ s m = ⟨StM.setPC (if (writesM ⟨(k : Nat), D, N, M, imm⟩).2 = true then (reckM s k D N M imm).1.setR D (reckM s k D N M imm).2 else (reckM s k D N M imm).1) (s.pc + 2#32), m, false, 0⟩ := by
    unfold doM; simp only [Int.toNat_natCast]; split <;> first | omega | rfl
  rw [hdo]
  generalize reckM s k D N M imm = r at *
  have hwd : (writesM ⟨(k : Nat), D, N, M, imm⟩).2 = true → (writesM ⟨(k : Nat), D, N, M, imm⟩).1 = D := by
    unfold writesM; rw [if_pos hc]; split <;> simp
  generalize writesM ⟨(k : Nat), D, N, M, imm⟩ = q at *
  obtain ⟨q1, q2⟩ := q
  have n20 : ¬ (k : Int) = 20 := by omega
  have n19 : ¬ (k : Int) = 19 := by omega
  have n18 : ¬ (k : Int) = 18 := by omega
  have n17 : ¬ (k : Int) = 17 := by omega
  have n16 : ¬ (k : Int) = 16 := by omega
  have n15 : ¬ (k : Int) = 15 := by omega
  have n14 : ¬ (k : Int) = 14 := by omega
  have n13 : ¬ (k : Int) = 13 := by omega
  have n12 : ¬ (k : Int) = 12 := by omega
  cases q2 with
  | true =>
    obtain rfl := hwd rfl
    rw [if_pos rfl]
    simp -implicitDefEqProofs +contextual (disch := try first | omega | assumption | (simp only [AHeap.next_set, AHeap.next_push]; omega) | ((repeat' (first | assumption | with_reducible apply AHeap.WF.push | with_reducible apply AHeap.WF.set)) <;> first | omega | (simp only [AHeap.next_set, AHeap.next_push]; omega))) [core_Step.spec, core_Step, hT, hW, hF, memPush, memSet, memGet, mem_san, hR, n12, n13, n14, n15, n16, n17, n18, n19, n20]
    refine mem_fin hw hb hwb rfl ?_ ?_ ?_
    · simp; omega
    · intro c hc
      simp (disch := omega)
    · simp [mkRes]
  | false =>
    rw [if_neg (by simp)]
    simp -implicitDefEqProofs +contextual (disch := try first | omega | assumption | (simp only [AHeap.next_set, AHeap.next_push]; omega) | ((repeat' (first | assumption | with_reducible apply AHeap.WF.push | with_reducible apply AHeap.WF.set)) <;> first | omega | (simp only [AHeap.next_set, AHeap.next_push]; omega))) [core_Step.spec, core_Step, hT, hW, hF, memPush, memSet, memGet, mem_san, hR, n12, n13, n14, n15, n16, n17, n18, n19, n20]
    refine mem_fin hw hb hwb rfl ?_ ?_ ?_
    · simp; omega
    · intro c hc
      simp (disch := omega)
    · simp [mkRes]
set_option maxHeartbeats 10000000 in
theorem step_mid (k : Nat) (h1 : 12 ≤ k) (hk : k ≤ 16) (B : AHeap) (b wb : Nat) (m : MemM) (hw : B.WF) (hb : b < B.next) (hwb : wb < B.next) (hbw : b ≠ wb) (hm : m.Ok) (s : StM) (D N M : Nat) (hD : D < 8) (hN : N < 8) (hM : M < 8) (imm : Int) (hc : (InsM.mk (k : Nat) D N M imm).can = true) (h : BitVec 16) (hf : m.fetch s.pc = (h, 0)) (ht : takeN h.toNat = (⟨(k : Nat), D, N, M, imm⟩, 0)) :
    core_Step.spec [.agg s.cells, .ptr b 5 0 0] (B.mem b wb m) = some (DidAV (doM ⟨(k : Nat), D, N, M, imm⟩ s m), B.mem b wb (doM ⟨(k : Nat), D, N, M, imm⟩ s m).m) := by
  have hT := Take_eq h
  have hW := Writes_eq ⟨(k : Nat), D, N, M, imm⟩
  have hF := fun (B : AHeap) (h1 : B.WF) (h2 : b < B.next) (h3 : wb < B.next) => Fetch_eq B b wb m h1 h2 h3 s.pc hm
  rw [hf] at hF
  rw [ht] at hT
  simp only [InsAV] at hT hW
  unfold DidAV
  have hM := fun (B : AHeap) (h2 : B.WF) (h3 : b < B.next) (h4 : wb < B.next) => move_any k h1 hk B b wb m h2 h3 h4 hbw hm s D N M hD hN hM imm
  have hdo : doM ⟨(k : Nat), D, N, M, imm⟩ s m = if (moveM s k D (addrM s k N M imm) m).2.2 = 0 then ⟨(moveM s k D (addrM s k N M imm) m).1.setPC (s.pc + 2#32), (moveM s k D (addrM s k N M imm) m).2.1, false, 0⟩ else ⟨s, (moveM s k D (addrM s k N M imm) m).2.1, false, (moveM s k D (addrM s k N M imm) m).2.2⟩ := by
    obtain rfl | rfl | rfl | rfl | rfl : k = 12 ∨ k = 13 ∨ k = 14 ∨ k = 15 ∨ k = 16 := by omega
    all_goals first | rfl | (simp only [doM, Int.toNat_natCast]; done)
  rw [hdo]
  generalize moveM s k D (addrM s k N M imm) m = r at *
  clear hdo hc ht
  obtain rfl | rfl | rfl | rfl | rfl : k = 12 ∨ k = 13 ∨ k = 14 ∨ k = 15 ∨ k = 16 := by omega
  all_goals
    push_cast at hT hW hM
    by_cases he : r.2.2 = 0
    · rw [if_pos he]
      simp -implicitDefEqProofs +contextual (disch := try first | omega | assumption | (simp only [AHeap.next_set, AHeap.next_push]; omega) | ((repeat' (first | assumption | with_reducible apply AHeap.WF.push | with_reducible apply AHeap.WF.set)) <;> first | omega | (simp only [AHeap.next_set, AHeap.next_push]; omega))) [core_Step.spec, core_Step, hT, hW, hF, memPush, memSet, memGet, mem_san, hM, he]
      refine mem_fin hw hb hwb rfl ?_ ?_ ?_
      · simp; omega
      · intro c hc
        simp (disch := omega)
      · simp [mkRes]
    · rw [if_neg he]
      simp -implicitDefEqProofs +contextual (disch := try first | omega | assumption | (simp only [AHeap.next_set, AHeap.next_push]; omega) | ((repeat' (first | assumption | with_reducible apply AHeap.WF.push | with_reducible apply AHeap.WF.set)) <;> first | omega | (simp only [AHeap.next_set, AHeap.next_push]; omega))) [core_Step.spec, core_Step, hT, hW, hF, memPush, memSet, memGet, mem_san, hM, he]
      refine mem_fin hw hb hwb rfl ?_ ?_ ?_
      · simp; omega
      · intro c hc
        simp (disch := omega)
      · simp [mkRes]
set_option maxHeartbeats 4000000 in
theorem step_high (k : Nat) (h1 : 17 ≤ k) (hk : k ≤ 20) (B : AHeap) (b wb : Nat) (m : MemM) (hw : B.WF) (hb : b < B.next) (hwb : wb < B.next) (hbw : b ≠ wb) (hm : m.Ok) (s : StM) (D N M : Nat) (hD : D < 14) (imm : Int) (hc : (InsM.mk (k : Nat) D N M imm).can = true) (h : BitVec 16) (hf : m.fetch s.pc = (h, 0)) (ht : takeN h.toNat = (⟨(k : Nat), D, N, M, imm⟩, 0)) :
    core_Step.spec [.agg s.cells, .ptr b 5 0 0] (B.mem b wb m) = some (DidAV (doM ⟨(k : Nat), D, N, M, imm⟩ s m), B.mem b wb (doM ⟨(k : Nat), D, N, M, imm⟩ s m).m) := by
  have hT := Take_eq h
  have hW := Writes_eq ⟨(k : Nat), D, N, M, imm⟩
  have hF := fun (B : AHeap) (h1 : B.WF) (h2 : b < B.next) (h3 : wb < B.next) => Fetch_eq B b wb m h1 h2 h3 s.pc hm
  rw [hf] at hF
  rw [ht] at hT
  simp only [InsAV] at hT hW
  unfold DidAV
  have hH := holds_eq D (by omega) s
  clear hc ht
  obtain rfl | rfl | rfl | rfl : k = 17 ∨ k = 18 ∨ k = 19 ∨ k = 20 := by omega
  case inr.inl =>
    push_cast at hT hW ⊢
    simp only [doM, Int.toNat_natCast, Int.reduceToNat]
    by_cases he : holdsN D s = true
    · rw [if_pos he]
      simp -implicitDefEqProofs +contextual (disch := try first | omega | assumption | (simp only [AHeap.next_set, AHeap.next_push]; omega) | ((repeat' (first | assumption | with_reducible apply AHeap.WF.push | with_reducible apply AHeap.WF.set)) <;> first | omega | (simp only [AHeap.next_set, AHeap.next_push]; omega))) [core_Step.spec, core_Step, hT, hW, hF, memPush, memSet, memGet, mem_san, immW, hH, he]
      refine mem_fin hw hb hwb rfl ?_ ?_ ?_
      · simp; omega
      · intro c hc
        simp (disch := omega)
      · simp [mkRes]
    · rw [if_neg he]
      simp -implicitDefEqProofs +contextual (disch := try first | omega | assumption | (simp only [AHeap.next_set, AHeap.next_push]; omega) | ((repeat' (first | assumption | with_reducible apply AHeap.WF.push | with_reducible apply AHeap.WF.set)) <;> first | omega | (simp only [AHeap.next_set, AHeap.next_push]; omega))) [core_Step.spec, core_Step, hT, hW, hF, memPush, memSet, memGet, mem_san, immW, hH, he]
      refine mem_fin hw hb hwb rfl ?_ ?_ ?_
      · simp; omega
      · intro c hc
        simp (disch := omega)
      · simp [mkRes]
  all_goals
    push_cast at hT hW ⊢
    simp only [doM, Int.toNat_natCast, Int.reduceToNat]
    simp -implicitDefEqProofs +contextual (disch := try first | omega | assumption | (simp only [AHeap.next_set, AHeap.next_push]; omega) | ((repeat' (first | assumption | with_reducible apply AHeap.WF.push | with_reducible apply AHeap.WF.set)) <;> first | omega | (simp only [AHeap.next_set, AHeap.next_push]; omega))) [core_Step.spec, core_Step, hT, hW, hF, memPush, memSet, memGet, mem_san, immW]
    refine mem_fin hw hb hwb rfl ?_ ?_ ?_
    · simp; omega
    · intro c hc
      simp (disch := omega)
    · simp [mkRes]
end Go.Abs
