/-
  Instructions and their halfwords: what comes of one comes back from the other.
-/
import Derived.Test.YtgcfbommjdcgkaaThN
set_option linter.unusedSimpArgs false
set_option linter.unusedVariables false
namespace Go.Abs.Th
theorem can_iff (i : InsM) : i.can = true ↔ (0 ≤ i.op ∧ i.op ≤ 20) ∧ (shp i.op.toNat).low ≤ i.imm ∧ i.imm ≤ (shp i.op.toNat).high ∧ 0 ≤ i.d ∧ i.d ≤ maxD i.op.toNat ∧ 0 ≤ i.n ∧ i.n ≤ maxN i.op.toNat ∧ 0 ≤ i.m ∧ i.m ≤ maxM i.op.toNat := by
  simp [InsM.can, and_assoc]
theorem can_op (k : Nat) (hk : k ≤ 20) (d n m imm : Int) : (InsM.mk k d n m imm).can = true ↔ (shp k).low ≤ imm ∧ imm ≤ (shp k).high ∧ 0 ≤ d ∧ d ≤ maxD k ∧ 0 ≤ n ∧ n ≤ maxN k ∧ 0 ≤ m ∧ m ≤ maxM k := by
  rw [can_iff]; simp only [Int.toNat_natCast]
  constructor
  · intro h; exact h.2
  · intro h; exact ⟨⟨by omega, by omega⟩, h⟩
set_option maxHeartbeats 1000000 in
theorem back0 (h : Nat) (hh : h / 2 ^ free 0 = (shp 0).bits / 2 ^ free 0) (hc : (candN 0 h).can = true) : putN (candN 0 h) = h := by
  rw [cn0] at hc ⊢
  rw [show ∀ a b c d : Int, (InsM.mk 0 a b c d).can = true ↔ _ from fun a b c d => can_op 0 (by omega) a b c d] at hc
  simp [shp, maxD, maxN, maxM, hasD, hasN, hasM] at hc
  simp [free, shp] at hh
  simp [putN, putGo, shp, InsM.get]
  try omega
set_option maxHeartbeats 1000000 in
theorem forth0 (d n m imm : Int) (hc : (InsM.mk 0 d n m imm).can = true) : putN ⟨0, d, n, m, imm⟩ / 2 ^ free 0 = (shp 0).bits / 2 ^ free 0 ∧ candN 0 (putN ⟨0, d, n, m, imm⟩) = ⟨0, d, n, m, imm⟩ ∧ putN ⟨0, d, n, m, imm⟩ < 65536 := by
  rw [show ∀ a b c d : Int, (InsM.mk 0 a b c d).can = true ↔ _ from fun a b c d => can_op 0 (by omega) a b c d] at hc
  simp [shp, maxD, maxN, maxM, hasD, hasN, hasM] at hc
  rw [cn0]
  simp [putN, putGo, shp, InsM.get, free]
  try omega
set_option maxHeartbeats 1000000 in
theorem back1 (h : Nat) (hh : h / 2 ^ free 1 = (shp 1).bits / 2 ^ free 1) (hc : (candN 1 h).can = true) : putN (candN 1 h) = h := by
  rw [cn1] at hc ⊢
  rw [show ∀ a b c d : Int, (InsM.mk 1 a b c d).can = true ↔ _ from fun a b c d => can_op 1 (by omega) a b c d] at hc
  simp [shp, maxD, maxN, maxM, hasD, hasN, hasM] at hc
  simp [free, shp] at hh
  simp [putN, putGo, shp, InsM.get]
  try omega
set_option maxHeartbeats 1000000 in
theorem forth1 (d n m imm : Int) (hc : (InsM.mk 1 d n m imm).can = true) : putN ⟨1, d, n, m, imm⟩ / 2 ^ free 1 = (shp 1).bits / 2 ^ free 1 ∧ candN 1 (putN ⟨1, d, n, m, imm⟩) = ⟨1, d, n, m, imm⟩ ∧ putN ⟨1, d, n, m, imm⟩ < 65536 := by
  rw [show ∀ a b c d : Int, (InsM.mk 1 a b c d).can = true ↔ _ from fun a b c d => can_op 1 (by omega) a b c d] at hc
  simp [shp, maxD, maxN, maxM, hasD, hasN, hasM] at hc
  rw [cn1]
  simp [putN, putGo, shp, InsM.get, free]
  try omega
set_option maxHeartbeats 1000000 in
theorem back2 (h : Nat) (hh : h / 2 ^ free 2 = (shp 2).bits / 2 ^ free 2) (hc : (candN 2 h).can = true) : putN (candN 2 h) = h := by
  rw [cn2] at hc ⊢
  rw [show ∀ a b c d : Int, (InsM.mk 2 a b c d).can = true ↔ _ from fun a b c d => can_op 2 (by omega) a b c d] at hc
  simp [shp, maxD, maxN, maxM, hasD, hasN, hasM] at hc
  simp [free, shp] at hh
  simp [putN, putGo, shp, InsM.get]
  try omega
set_option maxHeartbeats 1000000 in
theorem forth2 (d n m imm : Int) (hc : (InsM.mk 2 d n m imm).can = true) : putN ⟨2, d, n, m, imm⟩ / 2 ^ free 2 = (shp 2).bits / 2 ^ free 2 ∧ candN 2 (putN ⟨2, d, n, m, imm⟩) = ⟨2, d, n, m, imm⟩ ∧ putN ⟨2, d, n, m, imm⟩ < 65536 := by
  rw [show ∀ a b c d : Int, (InsM.mk 2 a b c d).can = true ↔ _ from fun a b c d => can_op 2 (by omega) a b c d] at hc
  simp [shp, maxD, maxN, maxM, hasD, hasN, hasM] at hc
  rw [cn2]
  simp [putN, putGo, shp, InsM.get, free]
  try omega
set_option maxHeartbeats 1000000 in
theorem back3 (h : Nat) (hh : h / 2 ^ free 3 = (shp 3).bits / 2 ^ free 3) (hc : (candN 3 h).can = true) : putN (candN 3 h) = h := by
  rw [cn3] at hc ⊢
  rw [show ∀ a b c d : Int, (InsM.mk 3 a b c d).can = true ↔ _ from fun a b c d => can_op 3 (by omega) a b c d] at hc
  simp [shp, maxD, maxN, maxM, hasD, hasN, hasM] at hc
  simp [free, shp] at hh
  simp [putN, putGo, shp, InsM.get]
  try omega
set_option maxHeartbeats 1000000 in
theorem forth3 (d n m imm : Int) (hc : (InsM.mk 3 d n m imm).can = true) : putN ⟨3, d, n, m, imm⟩ / 2 ^ free 3 = (shp 3).bits / 2 ^ free 3 ∧ candN 3 (putN ⟨3, d, n, m, imm⟩) = ⟨3, d, n, m, imm⟩ ∧ putN ⟨3, d, n, m, imm⟩ < 65536 := by
  rw [show ∀ a b c d : Int, (InsM.mk 3 a b c d).can = true ↔ _ from fun a b c d => can_op 3 (by omega) a b c d] at hc
  simp [shp, maxD, maxN, maxM, hasD, hasN, hasM] at hc
  rw [cn3]
  simp [putN, putGo, shp, InsM.get, free]
  try omega
set_option maxHeartbeats 1000000 in
theorem back4 (h : Nat) (hh : h / 2 ^ free 4 = (shp 4).bits / 2 ^ free 4) (hc : (candN 4 h).can = true) : putN (candN 4 h) = h := by
  rw [cn4] at hc ⊢
  rw [show ∀ a b c d : Int, (InsM.mk 4 a b c d).can = true ↔ _ from fun a b c d => can_op 4 (by omega) a b c d] at hc
  simp [shp, maxD, maxN, maxM, hasD, hasN, hasM] at hc
  simp [free, shp] at hh
  simp [putN, putGo, shp, InsM.get]
  try omega
set_option maxHeartbeats 1000000 in
theorem forth4 (d n m imm : Int) (hc : (InsM.mk 4 d n m imm).can = true) : putN ⟨4, d, n, m, imm⟩ / 2 ^ free 4 = (shp 4).bits / 2 ^ free 4 ∧ candN 4 (putN ⟨4, d, n, m, imm⟩) = ⟨4, d, n, m, imm⟩ ∧ putN ⟨4, d, n, m, imm⟩ < 65536 := by
  rw [show ∀ a b c d : Int, (InsM.mk 4 a b c d).can = true ↔ _ from fun a b c d => can_op 4 (by omega) a b c d] at hc
  simp [shp, maxD, maxN, maxM, hasD, hasN, hasM] at hc
  rw [cn4]
  simp [putN, putGo, shp, InsM.get, free]
  try omega
set_option maxHeartbeats 1000000 in
theorem back5 (h : Nat) (hh : h / 2 ^ free 5 = (shp 5).bits / 2 ^ free 5) (hc : (candN 5 h).can = true) : putN (candN 5 h) = h := by
  rw [cn5] at hc ⊢
  rw [show ∀ a b c d : Int, (InsM.mk 5 a b c d).can = true ↔ _ from fun a b c d => can_op 5 (by omega) a b c d] at hc
  simp [shp, maxD, maxN, maxM, hasD, hasN, hasM] at hc
  simp [free, shp] at hh
  simp [putN, putGo, shp, InsM.get]
  try omega
set_option maxHeartbeats 1000000 in
theorem forth5 (d n m imm : Int) (hc : (InsM.mk 5 d n m imm).can = true) : putN ⟨5, d, n, m, imm⟩ / 2 ^ free 5 = (shp 5).bits / 2 ^ free 5 ∧ candN 5 (putN ⟨5, d, n, m, imm⟩) = ⟨5, d, n, m, imm⟩ ∧ putN ⟨5, d, n, m, imm⟩ < 65536 := by
  rw [show ∀ a b c d : Int, (InsM.mk 5 a b c d).can = true ↔ _ from fun a b c d => can_op 5 (by omega) a b c d] at hc
  simp [shp, maxD, maxN, maxM, hasD, hasN, hasM] at hc
  rw [cn5]
  simp [putN, putGo, shp, InsM.get, free]
  try omega
set_option maxHeartbeats 1000000 in
theorem back6 (h : Nat) (hh : h / 2 ^ free 6 = (shp 6).bits / 2 ^ free 6) (hc : (candN 6 h).can = true) : putN (candN 6 h) = h := by
  rw [cn6] at hc ⊢
  rw [show ∀ a b c d : Int, (InsM.mk 6 a b c d).can = true ↔ _ from fun a b c d => can_op 6 (by omega) a b c d] at hc
  simp [shp, maxD, maxN, maxM, hasD, hasN, hasM] at hc
  simp [free, shp] at hh
  simp [putN, putGo, shp, InsM.get]
  try omega
set_option maxHeartbeats 1000000 in
theorem forth6 (d n m imm : Int) (hc : (InsM.mk 6 d n m imm).can = true) : putN ⟨6, d, n, m, imm⟩ / 2 ^ free 6 = (shp 6).bits / 2 ^ free 6 ∧ candN 6 (putN ⟨6, d, n, m, imm⟩) = ⟨6, d, n, m, imm⟩ ∧ putN ⟨6, d, n, m, imm⟩ < 65536 := by
  rw [show ∀ a b c d : Int, (InsM.mk 6 a b c d).can = true ↔ _ from fun a b c d => can_op 6 (by omega) a b c d] at hc
  simp [shp, maxD, maxN, maxM, hasD, hasN, hasM] at hc
  rw [cn6]
  simp [putN, putGo, shp, InsM.get, free]
  try omega
set_option maxHeartbeats 1000000 in
theorem back7 (h : Nat) (hh : h / 2 ^ free 7 = (shp 7).bits / 2 ^ free 7) (hc : (candN 7 h).can = true) : putN (candN 7 h) = h := by
  rw [cn7] at hc ⊢
  rw [show ∀ a b c d : Int, (InsM.mk 7 a b c d).can = true ↔ _ from fun a b c d => can_op 7 (by omega) a b c d] at hc
  simp [shp, maxD, maxN, maxM, hasD, hasN, hasM] at hc
  simp [free, shp] at hh
  simp [putN, putGo, shp, InsM.get]
  try omega
set_option maxHeartbeats 1000000 in
theorem forth7 (d n m imm : Int) (hc : (InsM.mk 7 d n m imm).can = true) : putN ⟨7, d, n, m, imm⟩ / 2 ^ free 7 = (shp 7).bits / 2 ^ free 7 ∧ candN 7 (putN ⟨7, d, n, m, imm⟩) = ⟨7, d, n, m, imm⟩ ∧ putN ⟨7, d, n, m, imm⟩ < 65536 := by
  rw [show ∀ a b c d : Int, (InsM.mk 7 a b c d).can = true ↔ _ from fun a b c d => can_op 7 (by omega) a b c d] at hc
  simp [shp, maxD, maxN, maxM, hasD, hasN, hasM] at hc
  rw [cn7]
  simp [putN, putGo, shp, InsM.get, free]
  try omega
set_option maxHeartbeats 1000000 in
theorem back8 (h : Nat) (hh : h / 2 ^ free 8 = (shp 8).bits / 2 ^ free 8) (hc : (candN 8 h).can = true) : putN (candN 8 h) = h := by
  rw [cn8] at hc ⊢
  rw [show ∀ a b c d : Int, (InsM.mk 8 a b c d).can = true ↔ _ from fun a b c d => can_op 8 (by omega) a b c d] at hc
  simp [shp, maxD, maxN, maxM, hasD, hasN, hasM] at hc
  simp [free, shp] at hh
  simp [putN, putGo, shp, InsM.get]
  try omega
set_option maxHeartbeats 1000000 in
theorem forth8 (d n m imm : Int) (hc : (InsM.mk 8 d n m imm).can = true) : putN ⟨8, d, n, m, imm⟩ / 2 ^ free 8 = (shp 8).bits / 2 ^ free 8 ∧ candN 8 (putN ⟨8, d, n, m, imm⟩) = ⟨8, d, n, m, imm⟩ ∧ putN ⟨8, d, n, m, imm⟩ < 65536 := by
  rw [show ∀ a b c d : Int, (InsM.mk 8 a b c d).can = true ↔ _ from fun a b c d => can_op 8 (by omega) a b c d] at hc
  simp [shp, maxD, maxN, maxM, hasD, hasN, hasM] at hc
  rw [cn8]
  simp [putN, putGo, shp, InsM.get, free]
  try omega
set_option maxHeartbeats 1000000 in
theorem back9 (h : Nat) (hh : h / 2 ^ free 9 = (shp 9).bits / 2 ^ free 9) (hc : (candN 9 h).can = true) : putN (candN 9 h) = h := by
  rw [cn9] at hc ⊢
  rw [show ∀ a b c d : Int, (InsM.mk 9 a b c d).can = true ↔ _ from fun a b c d => can_op 9 (by omega) a b c d] at hc
  simp [shp, maxD, maxN, maxM, hasD, hasN, hasM] at hc
  simp [free, shp] at hh
  simp [putN, putGo, shp, InsM.get]
  try omega
set_option maxHeartbeats 1000000 in
theorem forth9 (d n m imm : Int) (hc : (InsM.mk 9 d n m imm).can = true) : putN ⟨9, d, n, m, imm⟩ / 2 ^ free 9 = (shp 9).bits / 2 ^ free 9 ∧ candN 9 (putN ⟨9, d, n, m, imm⟩) = ⟨9, d, n, m, imm⟩ ∧ putN ⟨9, d, n, m, imm⟩ < 65536 := by
  rw [show ∀ a b c d : Int, (InsM.mk 9 a b c d).can = true ↔ _ from fun a b c d => can_op 9 (by omega) a b c d] at hc
  simp [shp, maxD, maxN, maxM, hasD, hasN, hasM] at hc
  rw [cn9]
  simp [putN, putGo, shp, InsM.get, free]
  try omega
set_option maxHeartbeats 1000000 in
theorem back10 (h : Nat) (hh : h / 2 ^ free 10 = (shp 10).bits / 2 ^ free 10) (hc : (candN 10 h).can = true) : putN (candN 10 h) = h := by
  rw [cn10] at hc ⊢
  rw [show ∀ a b c d : Int, (InsM.mk 10 a b c d).can = true ↔ _ from fun a b c d => can_op 10 (by omega) a b c d] at hc
  simp [shp, maxD, maxN, maxM, hasD, hasN, hasM] at hc
  simp [free, shp] at hh
  simp [putN, putGo, shp, InsM.get]
  try omega
set_option maxHeartbeats 1000000 in
theorem forth10 (d n m imm : Int) (hc : (InsM.mk 10 d n m imm).can = true) : putN ⟨10, d, n, m, imm⟩ / 2 ^ free 10 = (shp 10).bits / 2 ^ free 10 ∧ candN 10 (putN ⟨10, d, n, m, imm⟩) = ⟨10, d, n, m, imm⟩ ∧ putN ⟨10, d, n, m, imm⟩ < 65536 := by
  rw [show ∀ a b c d : Int, (InsM.mk 10 a b c d).can = true ↔ _ from fun a b c d => can_op 10 (by omega) a b c d] at hc
  simp [shp, maxD, maxN, maxM, hasD, hasN, hasM] at hc
  rw [cn10]
  simp [putN, putGo, shp, InsM.get, free]
  try omega
set_option maxHeartbeats 1000000 in
theorem back11 (h : Nat) (hh : h / 2 ^ free 11 = (shp 11).bits / 2 ^ free 11) (hc : (candN 11 h).can = true) : putN (candN 11 h) = h := by
  rw [cn11] at hc ⊢
  rw [show ∀ a b c d : Int, (InsM.mk 11 a b c d).can = true ↔ _ from fun a b c d => can_op 11 (by omega) a b c d] at hc
  simp [shp, maxD, maxN, maxM, hasD, hasN, hasM] at hc
  simp [free, shp] at hh
  simp [putN, putGo, shp, InsM.get]
  try omega
set_option maxHeartbeats 1000000 in
theorem forth11 (d n m imm : Int) (hc : (InsM.mk 11 d n m imm).can = true) : putN ⟨11, d, n, m, imm⟩ / 2 ^ free 11 = (shp 11).bits / 2 ^ free 11 ∧ candN 11 (putN ⟨11, d, n, m, imm⟩) = ⟨11, d, n, m, imm⟩ ∧ putN ⟨11, d, n, m, imm⟩ < 65536 := by
  rw [show ∀ a b c d : Int, (InsM.mk 11 a b c d).can = true ↔ _ from fun a b c d => can_op 11 (by omega) a b c d] at hc
  simp [shp, maxD, maxN, maxM, hasD, hasN, hasM] at hc
  rw [cn11]
  simp [putN, putGo, shp, InsM.get, free]
  try omega
set_option maxHeartbeats 1000000 in
theorem back12 (h : Nat) (hh : h / 2 ^ free 12 = (shp 12).bits / 2 ^ free 12) (hc : (candN 12 h).can = true) : putN (candN 12 h) = h := by
  rw [cn12] at hc ⊢
  rw [show ∀ a b c d : Int, (InsM.mk 12 a b c d).can = true ↔ _ from fun a b c d => can_op 12 (by omega) a b c d] at hc
  simp [shp, maxD, maxN, maxM, hasD, hasN, hasM] at hc
  simp [free, shp] at hh
  simp [putN, putGo, shp, InsM.get]
  try omega
set_option maxHeartbeats 1000000 in
theorem forth12 (d n m imm : Int) (hc : (InsM.mk 12 d n m imm).can = true) : putN ⟨12, d, n, m, imm⟩ / 2 ^ free 12 = (shp 12).bits / 2 ^ free 12 ∧ candN 12 (putN ⟨12, d, n, m, imm⟩) = ⟨12, d, n, m, imm⟩ ∧ putN ⟨12, d, n, m, imm⟩ < 65536 := by
  rw [show ∀ a b c d : Int, (InsM.mk 12 a b c d).can = true ↔ _ from fun a b c d => can_op 12 (by omega) a b c d] at hc
  simp [shp, maxD, maxN, maxM, hasD, hasN, hasM] at hc
  rw [cn12]
  simp [putN, putGo, shp, InsM.get, free]
  try omega
set_option maxHeartbeats 1000000 in
theorem back13 (h : Nat) (hh : h / 2 ^ free 13 = (shp 13).bits / 2 ^ free 13) (hc : (candN 13 h).can = true) : putN (candN 13 h) = h := by
  rw [cn13] at hc ⊢
  rw [show ∀ a b c d : Int, (InsM.mk 13 a b c d).can = true ↔ _ from fun a b c d => can_op 13 (by omega) a b c d] at hc
  simp [shp, maxD, maxN, maxM, hasD, hasN, hasM] at hc
  simp [free, shp] at hh
  simp [putN, putGo, shp, InsM.get]
  try omega
set_option maxHeartbeats 1000000 in
theorem forth13 (d n m imm : Int) (hc : (InsM.mk 13 d n m imm).can = true) : putN ⟨13, d, n, m, imm⟩ / 2 ^ free 13 = (shp 13).bits / 2 ^ free 13 ∧ candN 13 (putN ⟨13, d, n, m, imm⟩) = ⟨13, d, n, m, imm⟩ ∧ putN ⟨13, d, n, m, imm⟩ < 65536 := by
  rw [show ∀ a b c d : Int, (InsM.mk 13 a b c d).can = true ↔ _ from fun a b c d => can_op 13 (by omega) a b c d] at hc
  simp [shp, maxD, maxN, maxM, hasD, hasN, hasM] at hc
  rw [cn13]
  simp [putN, putGo, shp, InsM.get, free]
  try omega
set_option maxHeartbeats 1000000 in
theorem back14 (h : Nat) (hh : h / 2 ^ free 14 = (shp 14).bits / 2 ^ free 14) (hc : (candN 14 h).can = true) : putN (candN 14 h) = h := by
  rw [cn14] at hc ⊢
  rw [show ∀ a b c d : Int, (InsM.mk 14 a b c d).can = true ↔ _ from fun a b c d => can_op 14 (by omega) a b c d] at hc
  simp [shp, maxD, maxN, maxM, hasD, hasN, hasM] at hc
  simp [free, shp] at hh
  simp [putN, putGo, shp, InsM.get]
  try omega
set_option maxHeartbeats 1000000 in
theorem forth14 (d n m imm : Int) (hc : (InsM.mk 14 d n m imm).can = true) : putN ⟨14, d, n, m, imm⟩ / 2 ^ free 14 = (shp 14).bits / 2 ^ free 14 ∧ candN 14 (putN ⟨14, d, n, m, imm⟩) = ⟨14, d, n, m, imm⟩ ∧ putN ⟨14, d, n, m, imm⟩ < 65536 := by
  rw [show ∀ a b c d : Int, (InsM.mk 14 a b c d).can = true ↔ _ from fun a b c d => can_op 14 (by omega) a b c d] at hc
  simp [shp, maxD, maxN, maxM, hasD, hasN, hasM] at hc
  rw [cn14]
  simp [putN, putGo, shp, InsM.get, free]
  try omega
set_option maxHeartbeats 1000000 in
theorem back15 (h : Nat) (hh : h / 2 ^ free 15 = (shp 15).bits / 2 ^ free 15) (hc : (candN 15 h).can = true) : putN (candN 15 h) = h := by
  rw [cn15] at hc ⊢
  rw [show ∀ a b c d : Int, (InsM.mk 15 a b c d).can = true ↔ _ from fun a b c d => can_op 15 (by omega) a b c d] at hc
  simp [shp, maxD, maxN, maxM, hasD, hasN, hasM] at hc
  simp [free, shp] at hh
  simp [putN, putGo, shp, InsM.get]
  try omega
set_option maxHeartbeats 1000000 in
theorem forth15 (d n m imm : Int) (hc : (InsM.mk 15 d n m imm).can = true) : putN ⟨15, d, n, m, imm⟩ / 2 ^ free 15 = (shp 15).bits / 2 ^ free 15 ∧ candN 15 (putN ⟨15, d, n, m, imm⟩) = ⟨15, d, n, m, imm⟩ ∧ putN ⟨15, d, n, m, imm⟩ < 65536 := by
  rw [show ∀ a b c d : Int, (InsM.mk 15 a b c d).can = true ↔ _ from fun a b c d => can_op 15 (by omega) a b c d] at hc
  simp [shp, maxD, maxN, maxM, hasD, hasN, hasM] at hc
  rw [cn15]
  simp [putN, putGo, shp, InsM.get, free]
  try omega
set_option maxHeartbeats 1000000 in
theorem back16 (h : Nat) (hh : h / 2 ^ free 16 = (shp 16).bits / 2 ^ free 16) (hc : (candN 16 h).can = true) : putN (candN 16 h) = h := by
  rw [cn16] at hc ⊢
  rw [show ∀ a b c d : Int, (InsM.mk 16 a b c d).can = true ↔ _ from fun a b c d => can_op 16 (by omega) a b c d] at hc
  simp [shp, maxD, maxN, maxM, hasD, hasN, hasM] at hc
  simp [free, shp] at hh
  simp [putN, putGo, shp, InsM.get]
  try omega
set_option maxHeartbeats 1000000 in
theorem forth16 (d n m imm : Int) (hc : (InsM.mk 16 d n m imm).can = true) : putN ⟨16, d, n, m, imm⟩ / 2 ^ free 16 = (shp 16).bits / 2 ^ free 16 ∧ candN 16 (putN ⟨16, d, n, m, imm⟩) = ⟨16, d, n, m, imm⟩ ∧ putN ⟨16, d, n, m, imm⟩ < 65536 := by
  rw [show ∀ a b c d : Int, (InsM.mk 16 a b c d).can = true ↔ _ from fun a b c d => can_op 16 (by omega) a b c d] at hc
  simp [shp, maxD, maxN, maxM, hasD, hasN, hasM] at hc
  rw [cn16]
  simp [putN, putGo, shp, InsM.get, free]
  try omega
set_option maxHeartbeats 1000000 in
theorem back17 (h : Nat) (hh : h / 2 ^ free 17 = (shp 17).bits / 2 ^ free 17) (hc : (candN 17 h).can = true) : putN (candN 17 h) = h := by
  rw [cn17] at hc ⊢
  rw [show ∀ a b c d : Int, (InsM.mk 17 a b c d).can = true ↔ _ from fun a b c d => can_op 17 (by omega) a b c d] at hc
  simp [shp, maxD, maxN, maxM, hasD, hasN, hasM] at hc
  simp [free, shp] at hh
  simp [putN, putGo, shp, InsM.get]
  try omega
set_option maxHeartbeats 1000000 in
theorem forth17 (d n m imm : Int) (hc : (InsM.mk 17 d n m imm).can = true) : putN ⟨17, d, n, m, imm⟩ / 2 ^ free 17 = (shp 17).bits / 2 ^ free 17 ∧ candN 17 (putN ⟨17, d, n, m, imm⟩) = ⟨17, d, n, m, imm⟩ ∧ putN ⟨17, d, n, m, imm⟩ < 65536 := by
  rw [show ∀ a b c d : Int, (InsM.mk 17 a b c d).can = true ↔ _ from fun a b c d => can_op 17 (by omega) a b c d] at hc
  simp [shp, maxD, maxN, maxM, hasD, hasN, hasM] at hc
  rw [cn17]
  simp [putN, putGo, shp, InsM.get, free]
  try omega
set_option maxHeartbeats 1000000 in
theorem back18 (h : Nat) (hh : h / 2 ^ free 18 = (shp 18).bits / 2 ^ free 18) (hc : (candN 18 h).can = true) : putN (candN 18 h) = h := by
  rw [cn18] at hc ⊢
  rw [show ∀ a b c d : Int, (InsM.mk 18 a b c d).can = true ↔ _ from fun a b c d => can_op 18 (by omega) a b c d] at hc
  simp [shp, maxD, maxN, maxM, hasD, hasN, hasM] at hc
  simp [free, shp] at hh
  simp [putN, putGo, shp, InsM.get]
  try omega
set_option maxHeartbeats 1000000 in
theorem forth18 (d n m imm : Int) (hc : (InsM.mk 18 d n m imm).can = true) : putN ⟨18, d, n, m, imm⟩ / 2 ^ free 18 = (shp 18).bits / 2 ^ free 18 ∧ candN 18 (putN ⟨18, d, n, m, imm⟩) = ⟨18, d, n, m, imm⟩ ∧ putN ⟨18, d, n, m, imm⟩ < 65536 := by
  rw [show ∀ a b c d : Int, (InsM.mk 18 a b c d).can = true ↔ _ from fun a b c d => can_op 18 (by omega) a b c d] at hc
  simp [shp, maxD, maxN, maxM, hasD, hasN, hasM] at hc
  rw [cn18]
  simp [putN, putGo, shp, InsM.get, free]
  try omega
set_option maxHeartbeats 1000000 in
theorem back19 (h : Nat) (hh : h / 2 ^ free 19 = (shp 19).bits / 2 ^ free 19) (hc : (candN 19 h).can = true) : putN (candN 19 h) = h := by
  rw [cn19] at hc ⊢
  rw [show ∀ a b c d : Int, (InsM.mk 19 a b c d).can = true ↔ _ from fun a b c d => can_op 19 (by omega) a b c d] at hc
  simp [shp, maxD, maxN, maxM, hasD, hasN, hasM] at hc
  simp [free, shp] at hh
  simp [putN, putGo, shp, InsM.get]
  try omega
set_option maxHeartbeats 1000000 in
theorem forth19 (d n m imm : Int) (hc : (InsM.mk 19 d n m imm).can = true) : putN ⟨19, d, n, m, imm⟩ / 2 ^ free 19 = (shp 19).bits / 2 ^ free 19 ∧ candN 19 (putN ⟨19, d, n, m, imm⟩) = ⟨19, d, n, m, imm⟩ ∧ putN ⟨19, d, n, m, imm⟩ < 65536 := by
  rw [show ∀ a b c d : Int, (InsM.mk 19 a b c d).can = true ↔ _ from fun a b c d => can_op 19 (by omega) a b c d] at hc
  simp [shp, maxD, maxN, maxM, hasD, hasN, hasM] at hc
  rw [cn19]
  simp [putN, putGo, shp, InsM.get, free]
  try omega
set_option maxHeartbeats 1000000 in
theorem back20 (h : Nat) (hh : h / 2 ^ free 20 = (shp 20).bits / 2 ^ free 20) (hc : (candN 20 h).can = true) : putN (candN 20 h) = h := by
  rw [cn20] at hc ⊢
  rw [show ∀ a b c d : Int, (InsM.mk 20 a b c d).can = true ↔ _ from fun a b c d => can_op 20 (by omega) a b c d] at hc
  simp [shp, maxD, maxN, maxM, hasD, hasN, hasM] at hc
  simp [free, shp] at hh
  simp [putN, putGo, shp, InsM.get]
  try omega
set_option maxHeartbeats 1000000 in
theorem forth20 (d n m imm : Int) (hc : (InsM.mk 20 d n m imm).can = true) : putN ⟨20, d, n, m, imm⟩ / 2 ^ free 20 = (shp 20).bits / 2 ^ free 20 ∧ candN 20 (putN ⟨20, d, n, m, imm⟩) = ⟨20, d, n, m, imm⟩ ∧ putN ⟨20, d, n, m, imm⟩ < 65536 := by
  rw [show ∀ a b c d : Int, (InsM.mk 20 a b c d).can = true ↔ _ from fun a b c d => can_op 20 (by omega) a b c d] at hc
  simp [shp, maxD, maxN, maxM, hasD, hasN, hasM] at hc
  rw [cn20]
  simp [putN, putGo, shp, InsM.get, free]
  try omega
/-! By texts of bits -/
set_option maxHeartbeats 2000000 in
theorem putR0 (d n m imm : Int) (hc : (InsM.mk 0 d n m imm).can = true) : putR ⟨0, d, n, m, imm⟩ = putN ⟨0, d, n, m, imm⟩ := by
  rw [show ∀ a b c d : Int, (InsM.mk 0 a b c d).can = true ↔ _ from fun a b c d => can_op 0 (by omega) a b c d] at hc
  simp [shp, maxD, maxN, maxM, hasD, hasN, hasM] at hc
  simp [putN, putGo, shp, InsM.get, putR, putTxt, putBit, txt, Nat.div_div_eq_div_mul]
  try omega
set_option maxHeartbeats 2000000 in
theorem putR1 (d n m imm : Int) (hc : (InsM.mk 1 d n m imm).can = true) : putR ⟨1, d, n, m, imm⟩ = putN ⟨1, d, n, m, imm⟩ := by
  rw [show ∀ a b c d : Int, (InsM.mk 1 a b c d).can = true ↔ _ from fun a b c d => can_op 1 (by omega) a b c d] at hc
  simp [shp, maxD, maxN, maxM, hasD, hasN, hasM] at hc
  simp [putN, putGo, shp, InsM.get, putR, putTxt, putBit, txt, Nat.div_div_eq_div_mul]
  try omega
set_option maxHeartbeats 2000000 in
theorem putR2 (d n m imm : Int) (hc : (InsM.mk 2 d n m imm).can = true) : putR ⟨2, d, n, m, imm⟩ = putN ⟨2, d, n, m, imm⟩ := by
  rw [show ∀ a b c d : Int, (InsM.mk 2 a b c d).can = true ↔ _ from fun a b c d => can_op 2 (by omega) a b c d] at hc
  simp [shp, maxD, maxN, maxM, hasD, hasN, hasM] at hc
  simp [putN, putGo, shp, InsM.get, putR, putTxt, putBit, txt, Nat.div_div_eq_div_mul]
  try omega
set_option maxHeartbeats 2000000 in
theorem putR3 (d n m imm : Int) (hc : (InsM.mk 3 d n m imm).can = true) : putR ⟨3, d, n, m, imm⟩ = putN ⟨3, d, n, m, imm⟩ := by
  rw [show ∀ a b c d : Int, (InsM.mk 3 a b c d).can = true ↔ _ from fun a b c d => can_op 3 (by omega) a b c d] at hc
  simp [shp, maxD, maxN, maxM, hasD, hasN, hasM] at hc
  simp [putN, putGo, shp, InsM.get, putR, putTxt, putBit, txt, Nat.div_div_eq_div_mul]
  try omega
set_option maxHeartbeats 2000000 in
theorem putR4 (d n m imm : Int) (hc : (InsM.mk 4 d n m imm).can = true) : putR ⟨4, d, n, m, imm⟩ = putN ⟨4, d, n, m, imm⟩ := by
  rw [show ∀ a b c d : Int, (InsM.mk 4 a b c d).can = true ↔ _ from fun a b c d => can_op 4 (by omega) a b c d] at hc
  simp [shp, maxD, maxN, maxM, hasD, hasN, hasM] at hc
  simp [putN, putGo, shp, InsM.get, putR, putTxt, putBit, txt, Nat.div_div_eq_div_mul]
  try omega
set_option maxHeartbeats 2000000 in
theorem putR5 (d n m imm : Int) (hc : (InsM.mk 5 d n m imm).can = true) : putR ⟨5, d, n, m, imm⟩ = putN ⟨5, d, n, m, imm⟩ := by
  rw [show ∀ a b c d : Int, (InsM.mk 5 a b c d).can = true ↔ _ from fun a b c d => can_op 5 (by omega) a b c d] at hc
  simp [shp, maxD, maxN, maxM, hasD, hasN, hasM] at hc
  simp [putN, putGo, shp, InsM.get, putR, putTxt, putBit, txt, Nat.div_div_eq_div_mul]
  try omega
set_option maxHeartbeats 2000000 in
theorem putR6 (d n m imm : Int) (hc : (InsM.mk 6 d n m imm).can = true) : putR ⟨6, d, n, m, imm⟩ = putN ⟨6, d, n, m, imm⟩ := by
  rw [show ∀ a b c d : Int, (InsM.mk 6 a b c d).can = true ↔ _ from fun a b c d => can_op 6 (by omega) a b c d] at hc
  simp [shp, maxD, maxN, maxM, hasD, hasN, hasM] at hc
  simp [putN, putGo, shp, InsM.get, putR, putTxt, putBit, txt, Nat.div_div_eq_div_mul]
  try omega
set_option maxHeartbeats 2000000 in
theorem putR7 (d n m imm : Int) (hc : (InsM.mk 7 d n m imm).can = true) : putR ⟨7, d, n, m, imm⟩ = putN ⟨7, d, n, m, imm⟩ := by
  rw [show ∀ a b c d : Int, (InsM.mk 7 a b c d).can = true ↔ _ from fun a b c d => can_op 7 (by omega) a b c d] at hc
  simp [shp, maxD, maxN, maxM, hasD, hasN, hasM] at hc
  simp [putN, putGo, shp, InsM.get, putR, putTxt, putBit, txt, Nat.div_div_eq_div_mul]
  try omega
set_option maxHeartbeats 2000000 in
theorem putR8 (d n m imm : Int) (hc : (InsM.mk 8 d n m imm).can = true) : putR ⟨8, d, n, m, imm⟩ = putN ⟨8, d, n, m, imm⟩ := by
  rw [show ∀ a b c d : Int, (InsM.mk 8 a b c d).can = true ↔ _ from fun a b c d => can_op 8 (by omega) a b c d] at hc
  simp [shp, maxD, maxN, maxM, hasD, hasN, hasM] at hc
  simp [putN, putGo, shp, InsM.get, putR, putTxt, putBit, txt, Nat.div_div_eq_div_mul]
  try omega
set_option maxHeartbeats 2000000 in
theorem putR9 (d n m imm : Int) (hc : (InsM.mk 9 d n m imm).can = true) : putR ⟨9, d, n, m, imm⟩ = putN ⟨9, d, n, m, imm⟩ := by
  rw [show ∀ a b c d : Int, (InsM.mk 9 a b c d).can = true ↔ _ from fun a b c d => can_op 9 (by omega) a b c d] at hc
  simp [shp, maxD, maxN, maxM, hasD, hasN, hasM] at hc
  simp [putN, putGo, shp, InsM.get, putR, putTxt, putBit, txt, Nat.div_div_eq_div_mul]
  try omega
set_option maxHeartbeats 2000000 in
theorem putR10 (d n m imm : Int) (hc : (InsM.mk 10 d n m imm).can = true) : putR ⟨10, d, n, m, imm⟩ = putN ⟨10, d, n, m, imm⟩ := by
  rw [show ∀ a b c d : Int, (InsM.mk 10 a b c d).can = true ↔ _ from fun a b c d => can_op 10 (by omega) a b c d] at hc
  simp [shp, maxD, maxN, maxM, hasD, hasN, hasM] at hc
  simp [putN, putGo, shp, InsM.get, putR, putTxt, putBit, txt, Nat.div_div_eq_div_mul]
  try omega
set_option maxHeartbeats 2000000 in
theorem putR11 (d n m imm : Int) (hc : (InsM.mk 11 d n m imm).can = true) : putR ⟨11, d, n, m, imm⟩ = putN ⟨11, d, n, m, imm⟩ := by
  rw [show ∀ a b c d : Int, (InsM.mk 11 a b c d).can = true ↔ _ from fun a b c d => can_op 11 (by omega) a b c d] at hc
  simp [shp, maxD, maxN, maxM, hasD, hasN, hasM] at hc
  simp [putN, putGo, shp, InsM.get, putR, putTxt, putBit, txt, Nat.div_div_eq_div_mul]
  try omega
set_option maxHeartbeats 2000000 in
theorem putR12 (d n m imm : Int) (hc : (InsM.mk 12 d n m imm).can = true) : putR ⟨12, d, n, m, imm⟩ = putN ⟨12, d, n, m, imm⟩ := by
  rw [show ∀ a b c d : Int, (InsM.mk 12 a b c d).can = true ↔ _ from fun a b c d => can_op 12 (by omega) a b c d] at hc
  simp [shp, maxD, maxN, maxM, hasD, hasN, hasM] at hc
  simp [putN, putGo, shp, InsM.get, putR, putTxt, putBit, txt, Nat.div_div_eq_div_mul]
  try omega
set_option maxHeartbeats 2000000 in
theorem putR13 (d n m imm : Int) (hc : (InsM.mk 13 d n m imm).can = true) : putR ⟨13, d, n, m, imm⟩ = putN ⟨13, d, n, m, imm⟩ := by
  rw [show ∀ a b c d : Int, (InsM.mk 13 a b c d).can = true ↔ _ from fun a b c d => can_op 13 (by omega) a b c d] at hc
  simp [shp, maxD, maxN, maxM, hasD, hasN, hasM] at hc
  simp [putN, putGo, shp, InsM.get, putR, putTxt, putBit, txt, Nat.div_div_eq_div_mul]
  try omega
set_option maxHeartbeats 2000000 in
theorem putR14 (d n m imm : Int) (hc : (InsM.mk 14 d n m imm).can = true) : putR ⟨14, d, n, m, imm⟩ = putN ⟨14, d, n, m, imm⟩ := by
  rw [show ∀ a b c d : Int, (InsM.mk 14 a b c d).can = true ↔ _ from fun a b c d => can_op 14 (by omega) a b c d] at hc
  simp [shp, maxD, maxN, maxM, hasD, hasN, hasM] at hc
  simp [putN, putGo, shp, InsM.get, putR, putTxt, putBit, txt, Nat.div_div_eq_div_mul]
  try omega
set_option maxHeartbeats 2000000 in
theorem putR15 (d n m imm : Int) (hc : (InsM.mk 15 d n m imm).can = true) : putR ⟨15, d, n, m, imm⟩ = putN ⟨15, d, n, m, imm⟩ := by
  rw [show ∀ a b c d : Int, (InsM.mk 15 a b c d).can = true ↔ _ from fun a b c d => can_op 15 (by omega) a b c d] at hc
  simp [shp, maxD, maxN, maxM, hasD, hasN, hasM] at hc
  simp [putN, putGo, shp, InsM.get, putR, putTxt, putBit, txt, Nat.div_div_eq_div_mul]
  try omega
set_option maxHeartbeats 2000000 in
theorem putR16 (d n m imm : Int) (hc : (InsM.mk 16 d n m imm).can = true) : putR ⟨16, d, n, m, imm⟩ = putN ⟨16, d, n, m, imm⟩ := by
  rw [show ∀ a b c d : Int, (InsM.mk 16 a b c d).can = true ↔ _ from fun a b c d => can_op 16 (by omega) a b c d] at hc
  simp [shp, maxD, maxN, maxM, hasD, hasN, hasM] at hc
  simp [putN, putGo, shp, InsM.get, putR, putTxt, putBit, txt, Nat.div_div_eq_div_mul]
  try omega
set_option maxHeartbeats 2000000 in
theorem putR17 (d n m imm : Int) (hc : (InsM.mk 17 d n m imm).can = true) : putR ⟨17, d, n, m, imm⟩ = putN ⟨17, d, n, m, imm⟩ := by
  rw [show ∀ a b c d : Int, (InsM.mk 17 a b c d).can = true ↔ _ from fun a b c d => can_op 17 (by omega) a b c d] at hc
  simp [shp, maxD, maxN, maxM, hasD, hasN, hasM] at hc
  simp [putN, putGo, shp, InsM.get, putR, putTxt, putBit, txt, Nat.div_div_eq_div_mul]
  try omega
set_option maxHeartbeats 2000000 in
theorem putR18 (d n m imm : Int) (hc : (InsM.mk 18 d n m imm).can = true) : putR ⟨18, d, n, m, imm⟩ = putN ⟨18, d, n, m, imm⟩ := by
  rw [show ∀ a b c d : Int, (InsM.mk 18 a b c d).can = true ↔ _ from fun a b c d => can_op 18 (by omega) a b c d] at hc
  simp [shp, maxD, maxN, maxM, hasD, hasN, hasM] at hc
  simp [putN, putGo, shp, InsM.get, putR, putTxt, putBit, txt, Nat.div_div_eq_div_mul]
  try omega
set_option maxHeartbeats 2000000 in
theorem putR19 (d n m imm : Int) (hc : (InsM.mk 19 d n m imm).can = true) : putR ⟨19, d, n, m, imm⟩ = putN ⟨19, d, n, m, imm⟩ := by
  rw [show ∀ a b c d : Int, (InsM.mk 19 a b c d).can = true ↔ _ from fun a b c d => can_op 19 (by omega) a b c d] at hc
  simp [shp, maxD, maxN, maxM, hasD, hasN, hasM] at hc
  simp [putN, putGo, shp, InsM.get, putR, putTxt, putBit, txt, Nat.div_div_eq_div_mul]
  try omega
set_option maxHeartbeats 2000000 in
theorem putR20 (d n m imm : Int) (hc : (InsM.mk 20 d n m imm).can = true) : putR ⟨20, d, n, m, imm⟩ = putN ⟨20, d, n, m, imm⟩ := by
  rw [show ∀ a b c d : Int, (InsM.mk 20 a b c d).can = true ↔ _ from fun a b c d => can_op 20 (by omega) a b c d] at hc
  simp [shp, maxD, maxN, maxM, hasD, hasN, hasM] at hc
  simp [putN, putGo, shp, InsM.get, putR, putTxt, putBit, txt, Nat.div_div_eq_div_mul]
  try omega
end Go.Abs.Th
