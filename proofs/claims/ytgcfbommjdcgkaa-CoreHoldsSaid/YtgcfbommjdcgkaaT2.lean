/-
  Instructions and their halfwords: which instruction a halfword is. Printed by gent2.py.
-/
import Derived.Test.YtgcfbommjdcgkaaT1
set_option linter.unusedSimpArgs false
set_option linter.unusedVariables false
namespace Go.Abs
open Th
theorem can_eq (i : InsM) : thumb_can.spec [InsAV i] = some (.bool i.can) := by
  obtain ⟨op, d, n, m, imm⟩ := i
  by_cases h : 0 ≤ op ∧ op ≤ 20
  · obtain ⟨k, rfl⟩ : ∃ k : Nat, op = k := ⟨op.toNat, by omega⟩
    exact cases21 (P := fun k => thumb_can.spec [InsAV ⟨k, d, n, m, imm⟩] = some (.bool (InsM.mk k d n m imm).can)) k (by omega) (can0 d n m imm) (can1 d n m imm) (can2 d n m imm) (can3 d n m imm) (can4 d n m imm) (can5 d n m imm) (can6 d n m imm) (can7 d n m imm) (can8 d n m imm) (can9 d n m imm) (can10 d n m imm)
      (can11 d n m imm) (can12 d n m imm) (can13 d n m imm) (can14 d n m imm) (can15 d n m imm) (can16 d n m imm) (can17 d n m imm) (can18 d n m imm) (can19 d n m imm) (can20 d n m imm)
  · have hc : (InsM.mk op d n m imm).can = false := by
      rw [Bool.eq_false_iff, Ne, can_iff]; exact fun q => h q.1
    have h' : op < 0 ∨ 21 ≤ op := by omega
    rw [hc]
    simp -implicitDefEqProofs +contextual (disch := omega) [thumb_can.spec, thumb_can, InsAV, h']
theorem put_eq (i : InsM) (hc : i.can = true) : thumb_put.spec [InsAV i] = some (W16 (BitVec.ofNat 16 (putN i))) := by
  obtain ⟨op, d, n, m, imm⟩ := i
  have h := ((can_iff _).1 hc).1
  dsimp only at h
  obtain ⟨k, rfl⟩ : ∃ k : Nat, op = k := ⟨op.toNat, by omega⟩
  revert hc
  exact cases21 (P := fun k => (InsM.mk k d n m imm).can = true → thumb_put.spec [InsAV ⟨k, d, n, m, imm⟩] = some (W16 (BitVec.ofNat 16 (putN ⟨k, d, n, m, imm⟩)))) k (by omega) (put0 d n m imm) (put1 d n m imm) (put2 d n m imm) (put3 d n m imm) (put4 d n m imm) (put5 d n m imm) (put6 d n m imm) (put7 d n m imm) (put8 d n m imm) (put9 d n m imm) (put10 d n m imm)
    (put11 d n m imm) (put12 d n m imm) (put13 d n m imm) (put14 d n m imm) (put15 d n m imm) (put16 d n m imm) (put17 d n m imm) (put18 d n m imm) (put19 d n m imm) (put20 d n m imm)
/-- What Put answers. -/
def putM (i : InsM) : BitVec 16 × Int := if i.can then (BitVec.ofNat 16 (putN i), 0) else (0#16, 1)
theorem put_ne (op : Nat) (h : BitVec 16) (hc : (candN op h.toNat).can = true) (hi : isN op h.toNat = false) : BitVec.ofNat 16 (putN (candN op h.toNat)) ≠ h := by
  intro q
  have h1 := congrArg BitVec.toNat q
  rw [BitVec.toNat_ofNat, Nat.mod_eq_of_lt (by have := (forth _ hc).2.2; omega)] at h1
  simp [isN, hc, h1] at hi
theorem bits_and (h : BitVec 16) (at_ w : Nat) (hw : w < 16) : h.toNat >>> at_ &&& (2 ^ w - 1) = h.toNat / 2 ^ at_ % 2 ^ w := by
  rw [Nat.and_two_pow_sub_one_eq_mod, Nat.shiftRight_eq_div_pow]
def insBlk (i : InsM) : Blk := ⟨T.ty_api_Ins, 5, true, [[.int .i64 i.op, .int .i64 i.d, .int .i64 i.n, .int .i64 i.m, .int .i64 i.imm]]⟩
noncomputable abbrev takeL := thumb_Take.l0 thumb_shapes.spec thumb_field.spec thumb_can.spec thumb_put.spec
theorem bits_0_3 (h : BitVec 16) : h.toNat &&& 7 = h.toNat % 8 := by have := bits_and h 0 3 (by omega); simpa using this
theorem bits_0_8 (h : BitVec 16) : h.toNat &&& 255 = h.toNat % 256 := by have := bits_and h 0 8 (by omega); simpa using this
theorem bits_0_11 (h : BitVec 16) : h.toNat &&& 2047 = h.toNat % 2048 := by have := bits_and h 0 11 (by omega); simpa using this
theorem bits_3_3 (h : BitVec 16) : h.toNat >>> 3 &&& 7 = h.toNat / 8 % 8 := bits_and h 3 3 (by omega)
theorem bits_6_3 (h : BitVec 16) : h.toNat >>> 6 &&& 7 = h.toNat / 64 % 8 := bits_and h 6 3 (by omega)
theorem bits_6_4 (h : BitVec 16) : h.toNat >>> 6 &&& 15 = h.toNat / 64 % 16 := bits_and h 6 4 (by omega)
theorem bits_6_5 (h : BitVec 16) : h.toNat >>> 6 &&& 31 = h.toNat / 64 % 32 := bits_and h 6 5 (by omega)
theorem bits_8_3 (h : BitVec 16) : h.toNat >>> 8 &&& 7 = h.toNat / 256 % 8 := bits_and h 8 3 (by omega)
theorem bits_8_4 (h : BitVec 16) : h.toNat >>> 8 &&& 15 = h.toNat / 256 % 16 := bits_and h 8 4 (by omega)
set_option maxHeartbeats 2000000 in
theorem take0 (h : BitVec 16) (H : AHeap) (hw : H.WF) (i0 : InsM) (h0 : H.get 0 = some (insBlk i0)) : ∃ H' : AHeap,
    takeL (AFr.al [(0, W16 h), (2, .ptr 0 5 0 0), (10, .int .i64 0)]) H = (if isN 0 h.toNat = true then some (.ret, AFr.al [(2, .ptr 0 5 0 0), (3, .int .i64 0)], H') else some (.normal, AFr.al [(0, W16 h), (2, .ptr 0 5 0 0), (10, .int .i64 1)], H')) ∧
    H'.WF ∧ H'.get 0 = some (insBlk (if isN 0 h.toNat = true then candN 0 h.toNat else i0)) := by
  have hs := shapes0
  simp [shpAV, shp, partAV, ofc] at hs
  have hz := hw _ _ h0
  simp only [insBlk] at h0
  cases hi : isN 0 h.toNat with
  | true =>
    have hcn := hi
    simp only [isN, Bool.and_eq_true, beq_iff_eq] at hcn
    have h1 := can_eq (candN 0 h.toNat)
    have h2 := put_eq (candN 0 h.toNat) hcn.1
    rw [hcn.2, BitVec.ofNat_toNat, BitVec.setWidth_eq] at h2
    rw [hcn.1] at h1
    rw [cn0] at h1 h2 ⊢
    simp [InsAV] at h1 h2
    refine ⟨?H2, ?a2, ?b2, ?c2⟩
    case a2 =>
      simp -implicitDefEqProofs +contextual (disch := omega) [takeL, thumb_Take.l0, hs, aloop_unroll, thumb_Take.l1, field_d, field_c, field_n, field_m, field_i, field_0, h0, bits_0_3, bits_0_8, bits_0_11, bits_3_3, bits_6_3, bits_6_4, bits_6_5, bits_8_3, bits_8_4, h1, h2, insBlk]
      rfl
    case b2 => (repeat' (first | assumption | with_reducible apply AHeap.WF.push | with_reducible apply AHeap.WF.set)) <;> simp <;> omega
    case c2 => simp (disch := omega) [insBlk]
  | false =>
    have h1 := can_eq (candN 0 h.toNat)
    by_cases hcn : (candN 0 h.toNat).can = true
    · have h2 := put_eq (candN 0 h.toNat) hcn
      have hne : BitVec.ofNat 16 (putN (candN 0 h.toNat)) ≠ h := put_ne 0 h hcn hi
      generalize BitVec.ofNat 16 (putN (candN 0 h.toNat)) = y at h2 hne
      rw [hcn] at h1
      rw [cn0] at h1 h2
      simp [InsAV] at h1 h2
      refine ⟨?H3, ?a3, ?b3, ?c3⟩
      case a3 =>
        simp -implicitDefEqProofs +contextual (disch := omega) [takeL, thumb_Take.l0, hs, aloop_unroll, thumb_Take.l1, field_d, field_c, field_n, field_m, field_i, field_0, h0, bits_0_3, bits_0_8, bits_0_11, bits_3_3, bits_6_3, bits_6_4, bits_6_5, bits_8_3, bits_8_4, h1, h2, hne, insBlk]
        rfl
      case b3 => (repeat' (first | assumption | with_reducible apply AHeap.WF.push | with_reducible apply AHeap.WF.set)) <;> simp <;> omega
      case c3 => simp (disch := omega) [insBlk, h0]
    · rw [Bool.not_eq_true] at hcn
      rw [hcn] at h1
      rw [cn0] at h1
      simp [InsAV] at h1
      refine ⟨?H4, ?a4, ?b4, ?c4⟩
      case a4 =>
        simp -implicitDefEqProofs +contextual (disch := omega) [takeL, thumb_Take.l0, hs, aloop_unroll, thumb_Take.l1, field_d, field_c, field_n, field_m, field_i, field_0, h0, bits_0_3, bits_0_8, bits_0_11, bits_3_3, bits_6_3, bits_6_4, bits_6_5, bits_8_3, bits_8_4, h1, insBlk]
        rfl
      case b4 => (repeat' (first | assumption | with_reducible apply AHeap.WF.push | with_reducible apply AHeap.WF.set)) <;> simp <;> omega
      case c4 => simp (disch := omega) [insBlk, h0]
set_option maxHeartbeats 2000000 in
theorem take1 (h : BitVec 16) (H : AHeap) (hw : H.WF) (i0 : InsM) (h0 : H.get 0 = some (insBlk i0)) : ∃ H' : AHeap,
    takeL (AFr.al [(0, W16 h), (2, .ptr 0 5 0 0), (10, .int .i64 1)]) H = (if isN 1 h.toNat = true then some (.ret, AFr.al [(2, .ptr 0 5 0 0), (3, .int .i64 0)], H') else some (.normal, AFr.al [(0, W16 h), (2, .ptr 0 5 0 0), (10, .int .i64 2)], H')) ∧
    H'.WF ∧ H'.get 0 = some (insBlk (if isN 1 h.toNat = true then candN 1 h.toNat else i0)) := by
  have hs := shapes1
  simp [shpAV, shp, partAV, ofc] at hs
  have hz := hw _ _ h0
  simp only [insBlk] at h0
  cases hi : isN 1 h.toNat with
  | true =>
    have hcn := hi
    simp only [isN, Bool.and_eq_true, beq_iff_eq] at hcn
    have h1 := can_eq (candN 1 h.toNat)
    have h2 := put_eq (candN 1 h.toNat) hcn.1
    rw [hcn.2, BitVec.ofNat_toNat, BitVec.setWidth_eq] at h2
    rw [hcn.1] at h1
    rw [cn1] at h1 h2 ⊢
    simp [InsAV] at h1 h2
    refine ⟨?H6, ?a6, ?b6, ?c6⟩
    case a6 =>
      simp -implicitDefEqProofs +contextual (disch := omega) [takeL, thumb_Take.l0, hs, aloop_unroll, thumb_Take.l1, field_d, field_c, field_n, field_m, field_i, field_0, h0, bits_0_3, bits_0_8, bits_0_11, bits_3_3, bits_6_3, bits_6_4, bits_6_5, bits_8_3, bits_8_4, h1, h2, insBlk]
      rfl
    case b6 => (repeat' (first | assumption | with_reducible apply AHeap.WF.push | with_reducible apply AHeap.WF.set)) <;> simp <;> omega
    case c6 => simp (disch := omega) [insBlk]
  | false =>
    have h1 := can_eq (candN 1 h.toNat)
    by_cases hcn : (candN 1 h.toNat).can = true
    · have h2 := put_eq (candN 1 h.toNat) hcn
      have hne : BitVec.ofNat 16 (putN (candN 1 h.toNat)) ≠ h := put_ne 1 h hcn hi
      generalize BitVec.ofNat 16 (putN (candN 1 h.toNat)) = y at h2 hne
      rw [hcn] at h1
      rw [cn1] at h1 h2
      simp [InsAV] at h1 h2
      refine ⟨?H7, ?a7, ?b7, ?c7⟩
      case a7 =>
        simp -implicitDefEqProofs +contextual (disch := omega) [takeL, thumb_Take.l0, hs, aloop_unroll, thumb_Take.l1, field_d, field_c, field_n, field_m, field_i, field_0, h0, bits_0_3, bits_0_8, bits_0_11, bits_3_3, bits_6_3, bits_6_4, bits_6_5, bits_8_3, bits_8_4, h1, h2, hne, insBlk]
        rfl
      case b7 => (repeat' (first | assumption | with_reducible apply AHeap.WF.push | with_reducible apply AHeap.WF.set)) <;> simp <;> omega
      case c7 => simp (disch := omega) [insBlk, h0]
    · rw [Bool.not_eq_true] at hcn
      rw [hcn] at h1
      rw [cn1] at h1
      simp [InsAV] at h1
      refine ⟨?H8, ?a8, ?b8, ?c8⟩
      case a8 =>
        simp -implicitDefEqProofs +contextual (disch := omega) [takeL, thumb_Take.l0, hs, aloop_unroll, thumb_Take.l1, field_d, field_c, field_n, field_m, field_i, field_0, h0, bits_0_3, bits_0_8, bits_0_11, bits_3_3, bits_6_3, bits_6_4, bits_6_5, bits_8_3, bits_8_4, h1, insBlk]
        rfl
      case b8 => (repeat' (first | assumption | with_reducible apply AHeap.WF.push | with_reducible apply AHeap.WF.set)) <;> simp <;> omega
      case c8 => simp (disch := omega) [insBlk, h0]
set_option maxHeartbeats 2000000 in
theorem take2 (h : BitVec 16) (H : AHeap) (hw : H.WF) (i0 : InsM) (h0 : H.get 0 = some (insBlk i0)) : ∃ H' : AHeap,
    takeL (AFr.al [(0, W16 h), (2, .ptr 0 5 0 0), (10, .int .i64 2)]) H = (if isN 2 h.toNat = true then some (.ret, AFr.al [(2, .ptr 0 5 0 0), (3, .int .i64 0)], H') else some (.normal, AFr.al [(0, W16 h), (2, .ptr 0 5 0 0), (10, .int .i64 3)], H')) ∧
    H'.WF ∧ H'.get 0 = some (insBlk (if isN 2 h.toNat = true then candN 2 h.toNat else i0)) := by
  have hs := shapes2
  simp [shpAV, shp, partAV, ofc] at hs
  have hz := hw _ _ h0
  simp only [insBlk] at h0
  cases hi : isN 2 h.toNat with
  | true =>
    have hcn := hi
    simp only [isN, Bool.and_eq_true, beq_iff_eq] at hcn
    have h1 := can_eq (candN 2 h.toNat)
    have h2 := put_eq (candN 2 h.toNat) hcn.1
    rw [hcn.2, BitVec.ofNat_toNat, BitVec.setWidth_eq] at h2
    rw [hcn.1] at h1
    rw [cn2] at h1 h2 ⊢
    simp [InsAV] at h1 h2
    refine ⟨?H10, ?a10, ?b10, ?c10⟩
    case a10 =>
      simp -implicitDefEqProofs +contextual (disch := omega) [takeL, thumb_Take.l0, hs, aloop_unroll, thumb_Take.l1, field_d, field_c, field_n, field_m, field_i, field_0, h0, bits_0_3, bits_0_8, bits_0_11, bits_3_3, bits_6_3, bits_6_4, bits_6_5, bits_8_3, bits_8_4, h1, h2, insBlk]
      rfl
    case b10 => (repeat' (first | assumption | with_reducible apply AHeap.WF.push | with_reducible apply AHeap.WF.set)) <;> simp <;> omega
    case c10 => simp (disch := omega) [insBlk]
  | false =>
    have h1 := can_eq (candN 2 h.toNat)
    by_cases hcn : (candN 2 h.toNat).can = true
    · have h2 := put_eq (candN 2 h.toNat) hcn
      have hne : BitVec.ofNat 16 (putN (candN 2 h.toNat)) ≠ h := put_ne 2 h hcn hi
      generalize BitVec.ofNat 16 (putN (candN 2 h.toNat)) = y at h2 hne
      rw [hcn] at h1
      rw [cn2] at h1 h2
      simp [InsAV] at h1 h2
      refine ⟨?H11, ?a11, ?b11, ?c11⟩
      case a11 =>
        simp -implicitDefEqProofs +contextual (disch := omega) [takeL, thumb_Take.l0, hs, aloop_unroll, thumb_Take.l1, field_d, field_c, field_n, field_m, field_i, field_0, h0, bits_0_3, bits_0_8, bits_0_11, bits_3_3, bits_6_3, bits_6_4, bits_6_5, bits_8_3, bits_8_4, h1, h2, hne, insBlk]
        rfl
      case b11 => (repeat' (first | assumption | with_reducible apply AHeap.WF.push | with_reducible apply AHeap.WF.set)) <;> simp <;> omega
      case c11 => simp (disch := omega) [insBlk, h0]
    · rw [Bool.not_eq_true] at hcn
      rw [hcn] at h1
      rw [cn2] at h1
      simp [InsAV] at h1
      refine ⟨?H12, ?a12, ?b12, ?c12⟩
      case a12 =>
        simp -implicitDefEqProofs +contextual (disch := omega) [takeL, thumb_Take.l0, hs, aloop_unroll, thumb_Take.l1, field_d, field_c, field_n, field_m, field_i, field_0, h0, bits_0_3, bits_0_8, bits_0_11, bits_3_3, bits_6_3, bits_6_4, bits_6_5, bits_8_3, bits_8_4, h1, insBlk]
        rfl
      case b12 => (repeat' (first | assumption | with_reducible apply AHeap.WF.push | with_reducible apply AHeap.WF.set)) <;> simp <;> omega
      case c12 => simp (disch := omega) [insBlk, h0]
set_option maxHeartbeats 2000000 in
theorem take3 (h : BitVec 16) (H : AHeap) (hw : H.WF) (i0 : InsM) (h0 : H.get 0 = some (insBlk i0)) : ∃ H' : AHeap,
    takeL (AFr.al [(0, W16 h), (2, .ptr 0 5 0 0), (10, .int .i64 3)]) H = (if isN 3 h.toNat = true then some (.ret, AFr.al [(2, .ptr 0 5 0 0), (3, .int .i64 0)], H') else some (.normal, AFr.al [(0, W16 h), (2, .ptr 0 5 0 0), (10, .int .i64 4)], H')) ∧
    H'.WF ∧ H'.get 0 = some (insBlk (if isN 3 h.toNat = true then candN 3 h.toNat else i0)) := by
  have hs := shapes3
  simp [shpAV, shp, partAV, ofc] at hs
  have hz := hw _ _ h0
  simp only [insBlk] at h0
  cases hi : isN 3 h.toNat with
  | true =>
    have hcn := hi
    simp only [isN, Bool.and_eq_true, beq_iff_eq] at hcn
    have h1 := can_eq (candN 3 h.toNat)
    have h2 := put_eq (candN 3 h.toNat) hcn.1
    rw [hcn.2, BitVec.ofNat_toNat, BitVec.setWidth_eq] at h2
    rw [hcn.1] at h1
    rw [cn3] at h1 h2 ⊢
    simp [InsAV] at h1 h2
    refine ⟨?H14, ?a14, ?b14, ?c14⟩
    case a14 =>
      simp -implicitDefEqProofs +contextual (disch := omega) [takeL, thumb_Take.l0, hs, aloop_unroll, thumb_Take.l1, field_d, field_c, field_n, field_m, field_i, field_0, h0, bits_0_3, bits_0_8, bits_0_11, bits_3_3, bits_6_3, bits_6_4, bits_6_5, bits_8_3, bits_8_4, h1, h2, insBlk]
      rfl
    case b14 => (repeat' (first | assumption | with_reducible apply AHeap.WF.push | with_reducible apply AHeap.WF.set)) <;> simp <;> omega
    case c14 => simp (disch := omega) [insBlk]
  | false =>
    have h1 := can_eq (candN 3 h.toNat)
    by_cases hcn : (candN 3 h.toNat).can = true
    · have h2 := put_eq (candN 3 h.toNat) hcn
      have hne : BitVec.ofNat 16 (putN (candN 3 h.toNat)) ≠ h := put_ne 3 h hcn hi
      generalize BitVec.ofNat 16 (putN (candN 3 h.toNat)) = y at h2 hne
      rw [hcn] at h1
      rw [cn3] at h1 h2
      simp [InsAV] at h1 h2
      refine ⟨?H15, ?a15, ?b15, ?c15⟩
      case a15 =>
        simp -implicitDefEqProofs +contextual (disch := omega) [takeL, thumb_Take.l0, hs, aloop_unroll, thumb_Take.l1, field_d, field_c, field_n, field_m, field_i, field_0, h0, bits_0_3, bits_0_8, bits_0_11, bits_3_3, bits_6_3, bits_6_4, bits_6_5, bits_8_3, bits_8_4, h1, h2, hne, insBlk]
        rfl
      case b15 => (repeat' (first | assumption | with_reducible apply AHeap.WF.push | with_reducible apply AHeap.WF.set)) <;> simp <;> omega
      case c15 => simp (disch := omega) [insBlk, h0]
    · rw [Bool.not_eq_true] at hcn
      rw [hcn] at h1
      rw [cn3] at h1
      simp [InsAV] at h1
      refine ⟨?H16, ?a16, ?b16, ?c16⟩
      case a16 =>
        simp -implicitDefEqProofs +contextual (disch := omega) [takeL, thumb_Take.l0, hs, aloop_unroll, thumb_Take.l1, field_d, field_c, field_n, field_m, field_i, field_0, h0, bits_0_3, bits_0_8, bits_0_11, bits_3_3, bits_6_3, bits_6_4, bits_6_5, bits_8_3, bits_8_4, h1, insBlk]
        rfl
      case b16 => (repeat' (first | assumption | with_reducible apply AHeap.WF.push | with_reducible apply AHeap.WF.set)) <;> simp <;> omega
      case c16 => simp (disch := omega) [insBlk, h0]
set_option maxHeartbeats 2000000 in
theorem take4 (h : BitVec 16) (H : AHeap) (hw : H.WF) (i0 : InsM) (h0 : H.get 0 = some (insBlk i0)) : ∃ H' : AHeap,
    takeL (AFr.al [(0, W16 h), (2, .ptr 0 5 0 0), (10, .int .i64 4)]) H = (if isN 4 h.toNat = true then some (.ret, AFr.al [(2, .ptr 0 5 0 0), (3, .int .i64 0)], H') else some (.normal, AFr.al [(0, W16 h), (2, .ptr 0 5 0 0), (10, .int .i64 5)], H')) ∧
    H'.WF ∧ H'.get 0 = some (insBlk (if isN 4 h.toNat = true then candN 4 h.toNat else i0)) := by
  have hs := shapes4
  simp [shpAV, shp, partAV, ofc] at hs
  have hz := hw _ _ h0
  simp only [insBlk] at h0
  cases hi : isN 4 h.toNat with
  | true =>
    have hcn := hi
    simp only [isN, Bool.and_eq_true, beq_iff_eq] at hcn
    have h1 := can_eq (candN 4 h.toNat)
    have h2 := put_eq (candN 4 h.toNat) hcn.1
    rw [hcn.2, BitVec.ofNat_toNat, BitVec.setWidth_eq] at h2
    rw [hcn.1] at h1
    rw [cn4] at h1 h2 ⊢
    simp [InsAV] at h1 h2
    refine ⟨?H18, ?a18, ?b18, ?c18⟩
    case a18 =>
      simp -implicitDefEqProofs +contextual (disch := omega) [takeL, thumb_Take.l0, hs, aloop_unroll, thumb_Take.l1, field_d, field_c, field_n, field_m, field_i, field_0, h0, bits_0_3, bits_0_8, bits_0_11, bits_3_3, bits_6_3, bits_6_4, bits_6_5, bits_8_3, bits_8_4, h1, h2, insBlk]
      rfl
    case b18 => (repeat' (first | assumption | with_reducible apply AHeap.WF.push | with_reducible apply AHeap.WF.set)) <;> simp <;> omega
    case c18 => simp (disch := omega) [insBlk]
  | false =>
    have h1 := can_eq (candN 4 h.toNat)
    by_cases hcn : (candN 4 h.toNat).can = true
    · have h2 := put_eq (candN 4 h.toNat) hcn
      have hne : BitVec.ofNat 16 (putN (candN 4 h.toNat)) ≠ h := put_ne 4 h hcn hi
      generalize BitVec.ofNat 16 (putN (candN 4 h.toNat)) = y at h2 hne
      rw [hcn] at h1
      rw [cn4] at h1 h2
      simp [InsAV] at h1 h2
      refine ⟨?H19, ?a19, ?b19, ?c19⟩
      case a19 =>
        simp -implicitDefEqProofs +contextual (disch := omega) [takeL, thumb_Take.l0, hs, aloop_unroll, thumb_Take.l1, field_d, field_c, field_n, field_m, field_i, field_0, h0, bits_0_3, bits_0_8, bits_0_11, bits_3_3, bits_6_3, bits_6_4, bits_6_5, bits_8_3, bits_8_4, h1, h2, hne, insBlk]
        rfl
      case b19 => (repeat' (first | assumption | with_reducible apply AHeap.WF.push | with_reducible apply AHeap.WF.set)) <;> simp <;> omega
      case c19 => simp (disch := omega) [insBlk, h0]
    · rw [Bool.not_eq_true] at hcn
      rw [hcn] at h1
      rw [cn4] at h1
      simp [InsAV] at h1
      refine ⟨?H20, ?a20, ?b20, ?c20⟩
      case a20 =>
        simp -implicitDefEqProofs +contextual (disch := omega) [takeL, thumb_Take.l0, hs, aloop_unroll, thumb_Take.l1, field_d, field_c, field_n, field_m, field_i, field_0, h0, bits_0_3, bits_0_8, bits_0_11, bits_3_3, bits_6_3, bits_6_4, bits_6_5, bits_8_3, bits_8_4, h1, insBlk]
        rfl
      case b20 => (repeat' (first | assumption | with_reducible apply AHeap.WF.push | with_reducible apply AHeap.WF.set)) <;> simp <;> omega
      case c20 => simp (disch := omega) [insBlk, h0]
set_option maxHeartbeats 2000000 in
theorem take5 (h : BitVec 16) (H : AHeap) (hw : H.WF) (i0 : InsM) (h0 : H.get 0 = some (insBlk i0)) : ∃ H' : AHeap,
    takeL (AFr.al [(0, W16 h), (2, .ptr 0 5 0 0), (10, .int .i64 5)]) H = (if isN 5 h.toNat = true then some (.ret, AFr.al [(2, .ptr 0 5 0 0), (3, .int .i64 0)], H') else some (.normal, AFr.al [(0, W16 h), (2, .ptr 0 5 0 0), (10, .int .i64 6)], H')) ∧
    H'.WF ∧ H'.get 0 = some (insBlk (if isN 5 h.toNat = true then candN 5 h.toNat else i0)) := by
  have hs := shapes5
  simp [shpAV, shp, partAV, ofc] at hs
  have hz := hw _ _ h0
  simp only [insBlk] at h0
  by_cases hx : (h.toNat : Int) / 64 % 32 = 0
  · cases hi : isN 5 h.toNat with
    | true =>
      have hcn := hi
      simp only [isN, Bool.and_eq_true, beq_iff_eq] at hcn
      have h1 := can_eq (candN 5 h.toNat)
      have h2 := put_eq (candN 5 h.toNat) hcn.1
      rw [hcn.2, BitVec.ofNat_toNat, BitVec.setWidth_eq] at h2
      rw [hcn.1] at h1
      rw [cn5] at h1 h2 ⊢
      simp [InsAV, hx] at h1 h2
      refine ⟨?H22, ?a22, ?b22, ?c22⟩
      case a22 =>
        simp -implicitDefEqProofs +contextual (disch := omega) [takeL, thumb_Take.l0, hs, aloop_unroll, thumb_Take.l1, field_d, field_c, field_n, field_m, field_i, field_0, h0, bits_0_3, bits_0_8, bits_0_11, bits_3_3, bits_6_3, bits_6_4, bits_6_5, bits_8_3, bits_8_4, h1, h2, insBlk, hx]
        rfl
      case b22 => (repeat' (first | assumption | with_reducible apply AHeap.WF.push | with_reducible apply AHeap.WF.set)) <;> simp <;> omega
      case c22 => simp (disch := omega) [insBlk, hx]
    | false =>
      have h1 := can_eq (candN 5 h.toNat)
      by_cases hcn : (candN 5 h.toNat).can = true
      · have h2 := put_eq (candN 5 h.toNat) hcn
        have hne : BitVec.ofNat 16 (putN (candN 5 h.toNat)) ≠ h := put_ne 5 h hcn hi
        generalize BitVec.ofNat 16 (putN (candN 5 h.toNat)) = y at h2 hne
        rw [hcn] at h1
        rw [cn5] at h1 h2
        simp [InsAV, hx] at h1 h2
        refine ⟨?H23, ?a23, ?b23, ?c23⟩
        case a23 =>
          simp -implicitDefEqProofs +contextual (disch := omega) [takeL, thumb_Take.l0, hs, aloop_unroll, thumb_Take.l1, field_d, field_c, field_n, field_m, field_i, field_0, h0, bits_0_3, bits_0_8, bits_0_11, bits_3_3, bits_6_3, bits_6_4, bits_6_5, bits_8_3, bits_8_4, h1, h2, hne, insBlk, hx]
          rfl
        case b23 => (repeat' (first | assumption | with_reducible apply AHeap.WF.push | with_reducible apply AHeap.WF.set)) <;> simp <;> omega
        case c23 => simp (disch := omega) [insBlk, hx, h0]
      · rw [Bool.not_eq_true] at hcn
        rw [hcn] at h1
        rw [cn5] at h1
        simp [InsAV, hx] at h1
        refine ⟨?H24, ?a24, ?b24, ?c24⟩
        case a24 =>
          simp -implicitDefEqProofs +contextual (disch := omega) [takeL, thumb_Take.l0, hs, aloop_unroll, thumb_Take.l1, field_d, field_c, field_n, field_m, field_i, field_0, h0, bits_0_3, bits_0_8, bits_0_11, bits_3_3, bits_6_3, bits_6_4, bits_6_5, bits_8_3, bits_8_4, h1, insBlk, hx]
          rfl
        case b24 => (repeat' (first | assumption | with_reducible apply AHeap.WF.push | with_reducible apply AHeap.WF.set)) <;> simp <;> omega
        case c24 => simp (disch := omega) [insBlk, hx, h0]
  · cases hi : isN 5 h.toNat with
    | true =>
      have hcn := hi
      simp only [isN, Bool.and_eq_true, beq_iff_eq] at hcn
      have h1 := can_eq (candN 5 h.toNat)
      have h2 := put_eq (candN 5 h.toNat) hcn.1
      rw [hcn.2, BitVec.ofNat_toNat, BitVec.setWidth_eq] at h2
      rw [hcn.1] at h1
      rw [cn5] at h1 h2 ⊢
      simp [InsAV, hx] at h1 h2
      refine ⟨?H26, ?a26, ?b26, ?c26⟩
      case a26 =>
        simp -implicitDefEqProofs +contextual (disch := omega) [takeL, thumb_Take.l0, hs, aloop_unroll, thumb_Take.l1, field_d, field_c, field_n, field_m, field_i, field_0, h0, bits_0_3, bits_0_8, bits_0_11, bits_3_3, bits_6_3, bits_6_4, bits_6_5, bits_8_3, bits_8_4, h1, h2, insBlk, hx]
        rfl
      case b26 => (repeat' (first | assumption | with_reducible apply AHeap.WF.push | with_reducible apply AHeap.WF.set)) <;> simp <;> omega
      case c26 => simp (disch := omega) [insBlk, hx]
    | false =>
      have h1 := can_eq (candN 5 h.toNat)
      by_cases hcn : (candN 5 h.toNat).can = true
      · have h2 := put_eq (candN 5 h.toNat) hcn
        have hne : BitVec.ofNat 16 (putN (candN 5 h.toNat)) ≠ h := put_ne 5 h hcn hi
        generalize BitVec.ofNat 16 (putN (candN 5 h.toNat)) = y at h2 hne
        rw [hcn] at h1
        rw [cn5] at h1 h2
        simp [InsAV, hx] at h1 h2
        refine ⟨?H27, ?a27, ?b27, ?c27⟩
        case a27 =>
          simp -implicitDefEqProofs +contextual (disch := omega) [takeL, thumb_Take.l0, hs, aloop_unroll, thumb_Take.l1, field_d, field_c, field_n, field_m, field_i, field_0, h0, bits_0_3, bits_0_8, bits_0_11, bits_3_3, bits_6_3, bits_6_4, bits_6_5, bits_8_3, bits_8_4, h1, h2, hne, insBlk, hx]
          rfl
        case b27 => (repeat' (first | assumption | with_reducible apply AHeap.WF.push | with_reducible apply AHeap.WF.set)) <;> simp <;> omega
        case c27 => simp (disch := omega) [insBlk, hx, h0]
      · rw [Bool.not_eq_true] at hcn
        rw [hcn] at h1
        rw [cn5] at h1
        simp [InsAV, hx] at h1
        refine ⟨?H28, ?a28, ?b28, ?c28⟩
        case a28 =>
          simp -implicitDefEqProofs +contextual (disch := omega) [takeL, thumb_Take.l0, hs, aloop_unroll, thumb_Take.l1, field_d, field_c, field_n, field_m, field_i, field_0, h0, bits_0_3, bits_0_8, bits_0_11, bits_3_3, bits_6_3, bits_6_4, bits_6_5, bits_8_3, bits_8_4, h1, insBlk, hx]
          rfl
        case b28 => (repeat' (first | assumption | with_reducible apply AHeap.WF.push | with_reducible apply AHeap.WF.set)) <;> simp <;> omega
        case c28 => simp (disch := omega) [insBlk, hx, h0]
set_option maxHeartbeats 2000000 in
theorem take6 (h : BitVec 16) (H : AHeap) (hw : H.WF) (i0 : InsM) (h0 : H.get 0 = some (insBlk i0)) : ∃ H' : AHeap,
    takeL (AFr.al [(0, W16 h), (2, .ptr 0 5 0 0), (10, .int .i64 6)]) H = (if isN 6 h.toNat = true then some (.ret, AFr.al [(2, .ptr 0 5 0 0), (3, .int .i64 0)], H') else some (.normal, AFr.al [(0, W16 h), (2, .ptr 0 5 0 0), (10, .int .i64 7)], H')) ∧
    H'.WF ∧ H'.get 0 = some (insBlk (if isN 6 h.toNat = true then candN 6 h.toNat else i0)) := by
  have hs := shapes6
  simp [shpAV, shp, partAV, ofc] at hs
  have hz := hw _ _ h0
  simp only [insBlk] at h0
  by_cases hx : (h.toNat : Int) / 64 % 32 = 0
  · cases hi : isN 6 h.toNat with
    | true =>
      have hcn := hi
      simp only [isN, Bool.and_eq_true, beq_iff_eq] at hcn
      have h1 := can_eq (candN 6 h.toNat)
      have h2 := put_eq (candN 6 h.toNat) hcn.1
      rw [hcn.2, BitVec.ofNat_toNat, BitVec.setWidth_eq] at h2
      rw [hcn.1] at h1
      rw [cn6] at h1 h2 ⊢
      simp [InsAV, hx] at h1 h2
      refine ⟨?H30, ?a30, ?b30, ?c30⟩
      case a30 =>
        simp -implicitDefEqProofs +contextual (disch := omega) [takeL, thumb_Take.l0, hs, aloop_unroll, thumb_Take.l1, field_d, field_c, field_n, field_m, field_i, field_0, h0, bits_0_3, bits_0_8, bits_0_11, bits_3_3, bits_6_3, bits_6_4, bits_6_5, bits_8_3, bits_8_4, h1, h2, insBlk, hx]
        rfl
      case b30 => (repeat' (first | assumption | with_reducible apply AHeap.WF.push | with_reducible apply AHeap.WF.set)) <;> simp <;> omega
      case c30 => simp (disch := omega) [insBlk, hx]
    | false =>
      have h1 := can_eq (candN 6 h.toNat)
      by_cases hcn : (candN 6 h.toNat).can = true
      · have h2 := put_eq (candN 6 h.toNat) hcn
        have hne : BitVec.ofNat 16 (putN (candN 6 h.toNat)) ≠ h := put_ne 6 h hcn hi
        generalize BitVec.ofNat 16 (putN (candN 6 h.toNat)) = y at h2 hne
        rw [hcn] at h1
        rw [cn6] at h1 h2
        simp [InsAV, hx] at h1 h2
        refine ⟨?H31, ?a31, ?b31, ?c31⟩
        case a31 =>
          simp -implicitDefEqProofs +contextual (disch := omega) [takeL, thumb_Take.l0, hs, aloop_unroll, thumb_Take.l1, field_d, field_c, field_n, field_m, field_i, field_0, h0, bits_0_3, bits_0_8, bits_0_11, bits_3_3, bits_6_3, bits_6_4, bits_6_5, bits_8_3, bits_8_4, h1, h2, hne, insBlk, hx]
          rfl
        case b31 => (repeat' (first | assumption | with_reducible apply AHeap.WF.push | with_reducible apply AHeap.WF.set)) <;> simp <;> omega
        case c31 => simp (disch := omega) [insBlk, hx, h0]
      · rw [Bool.not_eq_true] at hcn
        rw [hcn] at h1
        rw [cn6] at h1
        simp [InsAV, hx] at h1
        refine ⟨?H32, ?a32, ?b32, ?c32⟩
        case a32 =>
          simp -implicitDefEqProofs +contextual (disch := omega) [takeL, thumb_Take.l0, hs, aloop_unroll, thumb_Take.l1, field_d, field_c, field_n, field_m, field_i, field_0, h0, bits_0_3, bits_0_8, bits_0_11, bits_3_3, bits_6_3, bits_6_4, bits_6_5, bits_8_3, bits_8_4, h1, insBlk, hx]
          rfl
        case b32 => (repeat' (first | assumption | with_reducible apply AHeap.WF.push | with_reducible apply AHeap.WF.set)) <;> simp <;> omega
        case c32 => simp (disch := omega) [insBlk, hx, h0]
  · cases hi : isN 6 h.toNat with
    | true =>
      have hcn := hi
      simp only [isN, Bool.and_eq_true, beq_iff_eq] at hcn
      have h1 := can_eq (candN 6 h.toNat)
      have h2 := put_eq (candN 6 h.toNat) hcn.1
      rw [hcn.2, BitVec.ofNat_toNat, BitVec.setWidth_eq] at h2
      rw [hcn.1] at h1
      rw [cn6] at h1 h2 ⊢
      simp [InsAV, hx] at h1 h2
      refine ⟨?H34, ?a34, ?b34, ?c34⟩
      case a34 =>
        simp -implicitDefEqProofs +contextual (disch := omega) [takeL, thumb_Take.l0, hs, aloop_unroll, thumb_Take.l1, field_d, field_c, field_n, field_m, field_i, field_0, h0, bits_0_3, bits_0_8, bits_0_11, bits_3_3, bits_6_3, bits_6_4, bits_6_5, bits_8_3, bits_8_4, h1, h2, insBlk, hx]
        rfl
      case b34 => (repeat' (first | assumption | with_reducible apply AHeap.WF.push | with_reducible apply AHeap.WF.set)) <;> simp <;> omega
      case c34 => simp (disch := omega) [insBlk, hx]
    | false =>
      have h1 := can_eq (candN 6 h.toNat)
      by_cases hcn : (candN 6 h.toNat).can = true
      · have h2 := put_eq (candN 6 h.toNat) hcn
        have hne : BitVec.ofNat 16 (putN (candN 6 h.toNat)) ≠ h := put_ne 6 h hcn hi
        generalize BitVec.ofNat 16 (putN (candN 6 h.toNat)) = y at h2 hne
        rw [hcn] at h1
        rw [cn6] at h1 h2
        simp [InsAV, hx] at h1 h2
        refine ⟨?H35, ?a35, ?b35, ?c35⟩
        case a35 =>
          simp -implicitDefEqProofs +contextual (disch := omega) [takeL, thumb_Take.l0, hs, aloop_unroll, thumb_Take.l1, field_d, field_c, field_n, field_m, field_i, field_0, h0, bits_0_3, bits_0_8, bits_0_11, bits_3_3, bits_6_3, bits_6_4, bits_6_5, bits_8_3, bits_8_4, h1, h2, hne, insBlk, hx]
          rfl
        case b35 => (repeat' (first | assumption | with_reducible apply AHeap.WF.push | with_reducible apply AHeap.WF.set)) <;> simp <;> omega
        case c35 => simp (disch := omega) [insBlk, hx, h0]
      · rw [Bool.not_eq_true] at hcn
        rw [hcn] at h1
        rw [cn6] at h1
        simp [InsAV, hx] at h1
        refine ⟨?H36, ?a36, ?b36, ?c36⟩
        case a36 =>
          simp -implicitDefEqProofs +contextual (disch := omega) [takeL, thumb_Take.l0, hs, aloop_unroll, thumb_Take.l1, field_d, field_c, field_n, field_m, field_i, field_0, h0, bits_0_3, bits_0_8, bits_0_11, bits_3_3, bits_6_3, bits_6_4, bits_6_5, bits_8_3, bits_8_4, h1, insBlk, hx]
          rfl
        case b36 => (repeat' (first | assumption | with_reducible apply AHeap.WF.push | with_reducible apply AHeap.WF.set)) <;> simp <;> omega
        case c36 => simp (disch := omega) [insBlk, hx, h0]
set_option maxHeartbeats 2000000 in
theorem take7 (h : BitVec 16) (H : AHeap) (hw : H.WF) (i0 : InsM) (h0 : H.get 0 = some (insBlk i0)) : ∃ H' : AHeap,
    takeL (AFr.al [(0, W16 h), (2, .ptr 0 5 0 0), (10, .int .i64 7)]) H = (if isN 7 h.toNat = true then some (.ret, AFr.al [(2, .ptr 0 5 0 0), (3, .int .i64 0)], H') else some (.normal, AFr.al [(0, W16 h), (2, .ptr 0 5 0 0), (10, .int .i64 8)], H')) ∧
    H'.WF ∧ H'.get 0 = some (insBlk (if isN 7 h.toNat = true then candN 7 h.toNat else i0)) := by
  have hs := shapes7
  simp [shpAV, shp, partAV, ofc] at hs
  have hz := hw _ _ h0
  simp only [insBlk] at h0
  cases hi : isN 7 h.toNat with
  | true =>
    have hcn := hi
    simp only [isN, Bool.and_eq_true, beq_iff_eq] at hcn
    have h1 := can_eq (candN 7 h.toNat)
    have h2 := put_eq (candN 7 h.toNat) hcn.1
    rw [hcn.2, BitVec.ofNat_toNat, BitVec.setWidth_eq] at h2
    rw [hcn.1] at h1
    rw [cn7] at h1 h2 ⊢
    simp [InsAV] at h1 h2
    refine ⟨?H38, ?a38, ?b38, ?c38⟩
    case a38 =>
      simp -implicitDefEqProofs +contextual (disch := omega) [takeL, thumb_Take.l0, hs, aloop_unroll, thumb_Take.l1, field_d, field_c, field_n, field_m, field_i, field_0, h0, bits_0_3, bits_0_8, bits_0_11, bits_3_3, bits_6_3, bits_6_4, bits_6_5, bits_8_3, bits_8_4, h1, h2, insBlk]
      rfl
    case b38 => (repeat' (first | assumption | with_reducible apply AHeap.WF.push | with_reducible apply AHeap.WF.set)) <;> simp <;> omega
    case c38 => simp (disch := omega) [insBlk]
  | false =>
    have h1 := can_eq (candN 7 h.toNat)
    by_cases hcn : (candN 7 h.toNat).can = true
    · have h2 := put_eq (candN 7 h.toNat) hcn
      have hne : BitVec.ofNat 16 (putN (candN 7 h.toNat)) ≠ h := put_ne 7 h hcn hi
      generalize BitVec.ofNat 16 (putN (candN 7 h.toNat)) = y at h2 hne
      rw [hcn] at h1
      rw [cn7] at h1 h2
      simp [InsAV] at h1 h2
      refine ⟨?H39, ?a39, ?b39, ?c39⟩
      case a39 =>
        simp -implicitDefEqProofs +contextual (disch := omega) [takeL, thumb_Take.l0, hs, aloop_unroll, thumb_Take.l1, field_d, field_c, field_n, field_m, field_i, field_0, h0, bits_0_3, bits_0_8, bits_0_11, bits_3_3, bits_6_3, bits_6_4, bits_6_5, bits_8_3, bits_8_4, h1, h2, hne, insBlk]
        rfl
      case b39 => (repeat' (first | assumption | with_reducible apply AHeap.WF.push | with_reducible apply AHeap.WF.set)) <;> simp <;> omega
      case c39 => simp (disch := omega) [insBlk, h0]
    · rw [Bool.not_eq_true] at hcn
      rw [hcn] at h1
      rw [cn7] at h1
      simp [InsAV] at h1
      refine ⟨?H40, ?a40, ?b40, ?c40⟩
      case a40 =>
        simp -implicitDefEqProofs +contextual (disch := omega) [takeL, thumb_Take.l0, hs, aloop_unroll, thumb_Take.l1, field_d, field_c, field_n, field_m, field_i, field_0, h0, bits_0_3, bits_0_8, bits_0_11, bits_3_3, bits_6_3, bits_6_4, bits_6_5, bits_8_3, bits_8_4, h1, insBlk]
        rfl
      case b40 => (repeat' (first | assumption | with_reducible apply AHeap.WF.push | with_reducible apply AHeap.WF.set)) <;> simp <;> omega
      case c40 => simp (disch := omega) [insBlk, h0]
set_option maxHeartbeats 2000000 in
theorem take8 (h : BitVec 16) (H : AHeap) (hw : H.WF) (i0 : InsM) (h0 : H.get 0 = some (insBlk i0)) : ∃ H' : AHeap,
    takeL (AFr.al [(0, W16 h), (2, .ptr 0 5 0 0), (10, .int .i64 8)]) H = (if isN 8 h.toNat = true then some (.ret, AFr.al [(2, .ptr 0 5 0 0), (3, .int .i64 0)], H') else some (.normal, AFr.al [(0, W16 h), (2, .ptr 0 5 0 0), (10, .int .i64 9)], H')) ∧
    H'.WF ∧ H'.get 0 = some (insBlk (if isN 8 h.toNat = true then candN 8 h.toNat else i0)) := by
  have hs := shapes8
  simp [shpAV, shp, partAV, ofc] at hs
  have hz := hw _ _ h0
  simp only [insBlk] at h0
  cases hi : isN 8 h.toNat with
  | true =>
    have hcn := hi
    simp only [isN, Bool.and_eq_true, beq_iff_eq] at hcn
    have h1 := can_eq (candN 8 h.toNat)
    have h2 := put_eq (candN 8 h.toNat) hcn.1
    rw [hcn.2, BitVec.ofNat_toNat, BitVec.setWidth_eq] at h2
    rw [hcn.1] at h1
    rw [cn8] at h1 h2 ⊢
    simp [InsAV] at h1 h2
    refine ⟨?H42, ?a42, ?b42, ?c42⟩
    case a42 =>
      simp -implicitDefEqProofs +contextual (disch := omega) [takeL, thumb_Take.l0, hs, aloop_unroll, thumb_Take.l1, field_d, field_c, field_n, field_m, field_i, field_0, h0, bits_0_3, bits_0_8, bits_0_11, bits_3_3, bits_6_3, bits_6_4, bits_6_5, bits_8_3, bits_8_4, h1, h2, insBlk]
      rfl
    case b42 => (repeat' (first | assumption | with_reducible apply AHeap.WF.push | with_reducible apply AHeap.WF.set)) <;> simp <;> omega
    case c42 => simp (disch := omega) [insBlk]
  | false =>
    have h1 := can_eq (candN 8 h.toNat)
    by_cases hcn : (candN 8 h.toNat).can = true
    · have h2 := put_eq (candN 8 h.toNat) hcn
      have hne : BitVec.ofNat 16 (putN (candN 8 h.toNat)) ≠ h := put_ne 8 h hcn hi
      generalize BitVec.ofNat 16 (putN (candN 8 h.toNat)) = y at h2 hne
      rw [hcn] at h1
      rw [cn8] at h1 h2
      simp [InsAV] at h1 h2
      refine ⟨?H43, ?a43, ?b43, ?c43⟩
      case a43 =>
        simp -implicitDefEqProofs +contextual (disch := omega) [takeL, thumb_Take.l0, hs, aloop_unroll, thumb_Take.l1, field_d, field_c, field_n, field_m, field_i, field_0, h0, bits_0_3, bits_0_8, bits_0_11, bits_3_3, bits_6_3, bits_6_4, bits_6_5, bits_8_3, bits_8_4, h1, h2, hne, insBlk]
        rfl
      case b43 => (repeat' (first | assumption | with_reducible apply AHeap.WF.push | with_reducible apply AHeap.WF.set)) <;> simp <;> omega
      case c43 => simp (disch := omega) [insBlk, h0]
    · rw [Bool.not_eq_true] at hcn
      rw [hcn] at h1
      rw [cn8] at h1
      simp [InsAV] at h1
      refine ⟨?H44, ?a44, ?b44, ?c44⟩
      case a44 =>
        simp -implicitDefEqProofs +contextual (disch := omega) [takeL, thumb_Take.l0, hs, aloop_unroll, thumb_Take.l1, field_d, field_c, field_n, field_m, field_i, field_0, h0, bits_0_3, bits_0_8, bits_0_11, bits_3_3, bits_6_3, bits_6_4, bits_6_5, bits_8_3, bits_8_4, h1, insBlk]
        rfl
      case b44 => (repeat' (first | assumption | with_reducible apply AHeap.WF.push | with_reducible apply AHeap.WF.set)) <;> simp <;> omega
      case c44 => simp (disch := omega) [insBlk, h0]
set_option maxHeartbeats 2000000 in
theorem take9 (h : BitVec 16) (H : AHeap) (hw : H.WF) (i0 : InsM) (h0 : H.get 0 = some (insBlk i0)) : ∃ H' : AHeap,
    takeL (AFr.al [(0, W16 h), (2, .ptr 0 5 0 0), (10, .int .i64 9)]) H = (if isN 9 h.toNat = true then some (.ret, AFr.al [(2, .ptr 0 5 0 0), (3, .int .i64 0)], H') else some (.normal, AFr.al [(0, W16 h), (2, .ptr 0 5 0 0), (10, .int .i64 10)], H')) ∧
    H'.WF ∧ H'.get 0 = some (insBlk (if isN 9 h.toNat = true then candN 9 h.toNat else i0)) := by
  have hs := shapes9
  simp [shpAV, shp, partAV, ofc] at hs
  have hz := hw _ _ h0
  simp only [insBlk] at h0
  cases hi : isN 9 h.toNat with
  | true =>
    have hcn := hi
    simp only [isN, Bool.and_eq_true, beq_iff_eq] at hcn
    have h1 := can_eq (candN 9 h.toNat)
    have h2 := put_eq (candN 9 h.toNat) hcn.1
    rw [hcn.2, BitVec.ofNat_toNat, BitVec.setWidth_eq] at h2
    rw [hcn.1] at h1
    rw [cn9] at h1 h2 ⊢
    simp [InsAV] at h1 h2
    refine ⟨?H46, ?a46, ?b46, ?c46⟩
    case a46 =>
      simp -implicitDefEqProofs +contextual (disch := omega) [takeL, thumb_Take.l0, hs, aloop_unroll, thumb_Take.l1, field_d, field_c, field_n, field_m, field_i, field_0, h0, bits_0_3, bits_0_8, bits_0_11, bits_3_3, bits_6_3, bits_6_4, bits_6_5, bits_8_3, bits_8_4, h1, h2, insBlk]
      rfl
    case b46 => (repeat' (first | assumption | with_reducible apply AHeap.WF.push | with_reducible apply AHeap.WF.set)) <;> simp <;> omega
    case c46 => simp (disch := omega) [insBlk]
  | false =>
    have h1 := can_eq (candN 9 h.toNat)
    by_cases hcn : (candN 9 h.toNat).can = true
    · have h2 := put_eq (candN 9 h.toNat) hcn
      have hne : BitVec.ofNat 16 (putN (candN 9 h.toNat)) ≠ h := put_ne 9 h hcn hi
      generalize BitVec.ofNat 16 (putN (candN 9 h.toNat)) = y at h2 hne
      rw [hcn] at h1
      rw [cn9] at h1 h2
      simp [InsAV] at h1 h2
      refine ⟨?H47, ?a47, ?b47, ?c47⟩
      case a47 =>
        simp -implicitDefEqProofs +contextual (disch := omega) [takeL, thumb_Take.l0, hs, aloop_unroll, thumb_Take.l1, field_d, field_c, field_n, field_m, field_i, field_0, h0, bits_0_3, bits_0_8, bits_0_11, bits_3_3, bits_6_3, bits_6_4, bits_6_5, bits_8_3, bits_8_4, h1, h2, hne, insBlk]
        rfl
      case b47 => (repeat' (first | assumption | with_reducible apply AHeap.WF.push | with_reducible apply AHeap.WF.set)) <;> simp <;> omega
      case c47 => simp (disch := omega) [insBlk, h0]
    · rw [Bool.not_eq_true] at hcn
      rw [hcn] at h1
      rw [cn9] at h1
      simp [InsAV] at h1
      refine ⟨?H48, ?a48, ?b48, ?c48⟩
      case a48 =>
        simp -implicitDefEqProofs +contextual (disch := omega) [takeL, thumb_Take.l0, hs, aloop_unroll, thumb_Take.l1, field_d, field_c, field_n, field_m, field_i, field_0, h0, bits_0_3, bits_0_8, bits_0_11, bits_3_3, bits_6_3, bits_6_4, bits_6_5, bits_8_3, bits_8_4, h1, insBlk]
        rfl
      case b48 => (repeat' (first | assumption | with_reducible apply AHeap.WF.push | with_reducible apply AHeap.WF.set)) <;> simp <;> omega
      case c48 => simp (disch := omega) [insBlk, h0]
set_option maxHeartbeats 2000000 in
theorem take10 (h : BitVec 16) (H : AHeap) (hw : H.WF) (i0 : InsM) (h0 : H.get 0 = some (insBlk i0)) : ∃ H' : AHeap,
    takeL (AFr.al [(0, W16 h), (2, .ptr 0 5 0 0), (10, .int .i64 10)]) H = (if isN 10 h.toNat = true then some (.ret, AFr.al [(2, .ptr 0 5 0 0), (3, .int .i64 0)], H') else some (.normal, AFr.al [(0, W16 h), (2, .ptr 0 5 0 0), (10, .int .i64 11)], H')) ∧
    H'.WF ∧ H'.get 0 = some (insBlk (if isN 10 h.toNat = true then candN 10 h.toNat else i0)) := by
  have hs := shapes10
  simp [shpAV, shp, partAV, ofc] at hs
  have hz := hw _ _ h0
  simp only [insBlk] at h0
  cases hi : isN 10 h.toNat with
  | true =>
    have hcn := hi
    simp only [isN, Bool.and_eq_true, beq_iff_eq] at hcn
    have h1 := can_eq (candN 10 h.toNat)
    have h2 := put_eq (candN 10 h.toNat) hcn.1
    rw [hcn.2, BitVec.ofNat_toNat, BitVec.setWidth_eq] at h2
    rw [hcn.1] at h1
    rw [cn10] at h1 h2 ⊢
    simp [InsAV] at h1 h2
    refine ⟨?H50, ?a50, ?b50, ?c50⟩
    case a50 =>
      simp -implicitDefEqProofs +contextual (disch := omega) [takeL, thumb_Take.l0, hs, aloop_unroll, thumb_Take.l1, field_d, field_c, field_n, field_m, field_i, field_0, h0, bits_0_3, bits_0_8, bits_0_11, bits_3_3, bits_6_3, bits_6_4, bits_6_5, bits_8_3, bits_8_4, h1, h2, insBlk]
      rfl
    case b50 => (repeat' (first | assumption | with_reducible apply AHeap.WF.push | with_reducible apply AHeap.WF.set)) <;> simp <;> omega
    case c50 => simp (disch := omega) [insBlk]
  | false =>
    have h1 := can_eq (candN 10 h.toNat)
    by_cases hcn : (candN 10 h.toNat).can = true
    · have h2 := put_eq (candN 10 h.toNat) hcn
      have hne : BitVec.ofNat 16 (putN (candN 10 h.toNat)) ≠ h := put_ne 10 h hcn hi
      generalize BitVec.ofNat 16 (putN (candN 10 h.toNat)) = y at h2 hne
      rw [hcn] at h1
      rw [cn10] at h1 h2
      simp [InsAV] at h1 h2
      refine ⟨?H51, ?a51, ?b51, ?c51⟩
      case a51 =>
        simp -implicitDefEqProofs +contextual (disch := omega) [takeL, thumb_Take.l0, hs, aloop_unroll, thumb_Take.l1, field_d, field_c, field_n, field_m, field_i, field_0, h0, bits_0_3, bits_0_8, bits_0_11, bits_3_3, bits_6_3, bits_6_4, bits_6_5, bits_8_3, bits_8_4, h1, h2, hne, insBlk]
        rfl
      case b51 => (repeat' (first | assumption | with_reducible apply AHeap.WF.push | with_reducible apply AHeap.WF.set)) <;> simp <;> omega
      case c51 => simp (disch := omega) [insBlk, h0]
    · rw [Bool.not_eq_true] at hcn
      rw [hcn] at h1
      rw [cn10] at h1
      simp [InsAV] at h1
      refine ⟨?H52, ?a52, ?b52, ?c52⟩
      case a52 =>
        simp -implicitDefEqProofs +contextual (disch := omega) [takeL, thumb_Take.l0, hs, aloop_unroll, thumb_Take.l1, field_d, field_c, field_n, field_m, field_i, field_0, h0, bits_0_3, bits_0_8, bits_0_11, bits_3_3, bits_6_3, bits_6_4, bits_6_5, bits_8_3, bits_8_4, h1, insBlk]
        rfl
      case b52 => (repeat' (first | assumption | with_reducible apply AHeap.WF.push | with_reducible apply AHeap.WF.set)) <;> simp <;> omega
      case c52 => simp (disch := omega) [insBlk, h0]
set_option maxHeartbeats 2000000 in
theorem take11 (h : BitVec 16) (H : AHeap) (hw : H.WF) (i0 : InsM) (h0 : H.get 0 = some (insBlk i0)) : ∃ H' : AHeap,
    takeL (AFr.al [(0, W16 h), (2, .ptr 0 5 0 0), (10, .int .i64 11)]) H = (if isN 11 h.toNat = true then some (.ret, AFr.al [(2, .ptr 0 5 0 0), (3, .int .i64 0)], H') else some (.normal, AFr.al [(0, W16 h), (2, .ptr 0 5 0 0), (10, .int .i64 12)], H')) ∧
    H'.WF ∧ H'.get 0 = some (insBlk (if isN 11 h.toNat = true then candN 11 h.toNat else i0)) := by
  have hs := shapes11
  simp [shpAV, shp, partAV, ofc] at hs
  have hz := hw _ _ h0
  simp only [insBlk] at h0
  cases hi : isN 11 h.toNat with
  | true =>
    have hcn := hi
    simp only [isN, Bool.and_eq_true, beq_iff_eq] at hcn
    have h1 := can_eq (candN 11 h.toNat)
    have h2 := put_eq (candN 11 h.toNat) hcn.1
    rw [hcn.2, BitVec.ofNat_toNat, BitVec.setWidth_eq] at h2
    rw [hcn.1] at h1
    rw [cn11] at h1 h2 ⊢
    simp [InsAV] at h1 h2
    refine ⟨?H54, ?a54, ?b54, ?c54⟩
    case a54 =>
      simp -implicitDefEqProofs +contextual (disch := omega) [takeL, thumb_Take.l0, hs, aloop_unroll, thumb_Take.l1, field_d, field_c, field_n, field_m, field_i, field_0, h0, bits_0_3, bits_0_8, bits_0_11, bits_3_3, bits_6_3, bits_6_4, bits_6_5, bits_8_3, bits_8_4, h1, h2, insBlk]
      rfl
    case b54 => (repeat' (first | assumption | with_reducible apply AHeap.WF.push | with_reducible apply AHeap.WF.set)) <;> simp <;> omega
    case c54 => simp (disch := omega) [insBlk]
  | false =>
    have h1 := can_eq (candN 11 h.toNat)
    by_cases hcn : (candN 11 h.toNat).can = true
    · have h2 := put_eq (candN 11 h.toNat) hcn
      have hne : BitVec.ofNat 16 (putN (candN 11 h.toNat)) ≠ h := put_ne 11 h hcn hi
      generalize BitVec.ofNat 16 (putN (candN 11 h.toNat)) = y at h2 hne
      rw [hcn] at h1
      rw [cn11] at h1 h2
      simp [InsAV] at h1 h2
      refine ⟨?H55, ?a55, ?b55, ?c55⟩
      case a55 =>
        simp -implicitDefEqProofs +contextual (disch := omega) [takeL, thumb_Take.l0, hs, aloop_unroll, thumb_Take.l1, field_d, field_c, field_n, field_m, field_i, field_0, h0, bits_0_3, bits_0_8, bits_0_11, bits_3_3, bits_6_3, bits_6_4, bits_6_5, bits_8_3, bits_8_4, h1, h2, hne, insBlk]
        rfl
      case b55 => (repeat' (first | assumption | with_reducible apply AHeap.WF.push | with_reducible apply AHeap.WF.set)) <;> simp <;> omega
      case c55 => simp (disch := omega) [insBlk, h0]
    · rw [Bool.not_eq_true] at hcn
      rw [hcn] at h1
      rw [cn11] at h1
      simp [InsAV] at h1
      refine ⟨?H56, ?a56, ?b56, ?c56⟩
      case a56 =>
        simp -implicitDefEqProofs +contextual (disch := omega) [takeL, thumb_Take.l0, hs, aloop_unroll, thumb_Take.l1, field_d, field_c, field_n, field_m, field_i, field_0, h0, bits_0_3, bits_0_8, bits_0_11, bits_3_3, bits_6_3, bits_6_4, bits_6_5, bits_8_3, bits_8_4, h1, insBlk]
        rfl
      case b56 => (repeat' (first | assumption | with_reducible apply AHeap.WF.push | with_reducible apply AHeap.WF.set)) <;> simp <;> omega
      case c56 => simp (disch := omega) [insBlk, h0]
set_option maxHeartbeats 2000000 in
theorem take12 (h : BitVec 16) (H : AHeap) (hw : H.WF) (i0 : InsM) (h0 : H.get 0 = some (insBlk i0)) : ∃ H' : AHeap,
    takeL (AFr.al [(0, W16 h), (2, .ptr 0 5 0 0), (10, .int .i64 12)]) H = (if isN 12 h.toNat = true then some (.ret, AFr.al [(2, .ptr 0 5 0 0), (3, .int .i64 0)], H') else some (.normal, AFr.al [(0, W16 h), (2, .ptr 0 5 0 0), (10, .int .i64 13)], H')) ∧
    H'.WF ∧ H'.get 0 = some (insBlk (if isN 12 h.toNat = true then candN 12 h.toNat else i0)) := by
  have hs := shapes12
  simp [shpAV, shp, partAV, ofc] at hs
  have hz := hw _ _ h0
  simp only [insBlk] at h0
  cases hi : isN 12 h.toNat with
  | true =>
    have hcn := hi
    simp only [isN, Bool.and_eq_true, beq_iff_eq] at hcn
    have h1 := can_eq (candN 12 h.toNat)
    have h2 := put_eq (candN 12 h.toNat) hcn.1
    rw [hcn.2, BitVec.ofNat_toNat, BitVec.setWidth_eq] at h2
    rw [hcn.1] at h1
    rw [cn12] at h1 h2 ⊢
    simp [InsAV] at h1 h2
    refine ⟨?H58, ?a58, ?b58, ?c58⟩
    case a58 =>
      simp -implicitDefEqProofs +contextual (disch := omega) [takeL, thumb_Take.l0, hs, aloop_unroll, thumb_Take.l1, field_d, field_c, field_n, field_m, field_i, field_0, h0, bits_0_3, bits_0_8, bits_0_11, bits_3_3, bits_6_3, bits_6_4, bits_6_5, bits_8_3, bits_8_4, h1, h2, insBlk]
      rfl
    case b58 => (repeat' (first | assumption | with_reducible apply AHeap.WF.push | with_reducible apply AHeap.WF.set)) <;> simp <;> omega
    case c58 => simp (disch := omega) [insBlk]
  | false =>
    have h1 := can_eq (candN 12 h.toNat)
    by_cases hcn : (candN 12 h.toNat).can = true
    · have h2 := put_eq (candN 12 h.toNat) hcn
      have hne : BitVec.ofNat 16 (putN (candN 12 h.toNat)) ≠ h := put_ne 12 h hcn hi
      generalize BitVec.ofNat 16 (putN (candN 12 h.toNat)) = y at h2 hne
      rw [hcn] at h1
      rw [cn12] at h1 h2
      simp [InsAV] at h1 h2
      refine ⟨?H59, ?a59, ?b59, ?c59⟩
      case a59 =>
        simp -implicitDefEqProofs +contextual (disch := omega) [takeL, thumb_Take.l0, hs, aloop_unroll, thumb_Take.l1, field_d, field_c, field_n, field_m, field_i, field_0, h0, bits_0_3, bits_0_8, bits_0_11, bits_3_3, bits_6_3, bits_6_4, bits_6_5, bits_8_3, bits_8_4, h1, h2, hne, insBlk]
        rfl
      case b59 => (repeat' (first | assumption | with_reducible apply AHeap.WF.push | with_reducible apply AHeap.WF.set)) <;> simp <;> omega
      case c59 => simp (disch := omega) [insBlk, h0]
    · rw [Bool.not_eq_true] at hcn
      rw [hcn] at h1
      rw [cn12] at h1
      simp [InsAV] at h1
      refine ⟨?H60, ?a60, ?b60, ?c60⟩
      case a60 =>
        simp -implicitDefEqProofs +contextual (disch := omega) [takeL, thumb_Take.l0, hs, aloop_unroll, thumb_Take.l1, field_d, field_c, field_n, field_m, field_i, field_0, h0, bits_0_3, bits_0_8, bits_0_11, bits_3_3, bits_6_3, bits_6_4, bits_6_5, bits_8_3, bits_8_4, h1, insBlk]
        rfl
      case b60 => (repeat' (first | assumption | with_reducible apply AHeap.WF.push | with_reducible apply AHeap.WF.set)) <;> simp <;> omega
      case c60 => simp (disch := omega) [insBlk, h0]
set_option maxHeartbeats 2000000 in
theorem take13 (h : BitVec 16) (H : AHeap) (hw : H.WF) (i0 : InsM) (h0 : H.get 0 = some (insBlk i0)) : ∃ H' : AHeap,
    takeL (AFr.al [(0, W16 h), (2, .ptr 0 5 0 0), (10, .int .i64 13)]) H = (if isN 13 h.toNat = true then some (.ret, AFr.al [(2, .ptr 0 5 0 0), (3, .int .i64 0)], H') else some (.normal, AFr.al [(0, W16 h), (2, .ptr 0 5 0 0), (10, .int .i64 14)], H')) ∧
    H'.WF ∧ H'.get 0 = some (insBlk (if isN 13 h.toNat = true then candN 13 h.toNat else i0)) := by
  have hs := shapes13
  simp [shpAV, shp, partAV, ofc] at hs
  have hz := hw _ _ h0
  simp only [insBlk] at h0
  cases hi : isN 13 h.toNat with
  | true =>
    have hcn := hi
    simp only [isN, Bool.and_eq_true, beq_iff_eq] at hcn
    have h1 := can_eq (candN 13 h.toNat)
    have h2 := put_eq (candN 13 h.toNat) hcn.1
    rw [hcn.2, BitVec.ofNat_toNat, BitVec.setWidth_eq] at h2
    rw [hcn.1] at h1
    rw [cn13] at h1 h2 ⊢
    simp [InsAV] at h1 h2
    refine ⟨?H62, ?a62, ?b62, ?c62⟩
    case a62 =>
      simp -implicitDefEqProofs +contextual (disch := omega) [takeL, thumb_Take.l0, hs, aloop_unroll, thumb_Take.l1, field_d, field_c, field_n, field_m, field_i, field_0, h0, bits_0_3, bits_0_8, bits_0_11, bits_3_3, bits_6_3, bits_6_4, bits_6_5, bits_8_3, bits_8_4, h1, h2, insBlk]
      rfl
    case b62 => (repeat' (first | assumption | with_reducible apply AHeap.WF.push | with_reducible apply AHeap.WF.set)) <;> simp <;> omega
    case c62 => simp (disch := omega) [insBlk]
  | false =>
    have h1 := can_eq (candN 13 h.toNat)
    by_cases hcn : (candN 13 h.toNat).can = true
    · have h2 := put_eq (candN 13 h.toNat) hcn
      have hne : BitVec.ofNat 16 (putN (candN 13 h.toNat)) ≠ h := put_ne 13 h hcn hi
      generalize BitVec.ofNat 16 (putN (candN 13 h.toNat)) = y at h2 hne
      rw [hcn] at h1
      rw [cn13] at h1 h2
      simp [InsAV] at h1 h2
      refine ⟨?H63, ?a63, ?b63, ?c63⟩
      case a63 =>
        simp -implicitDefEqProofs +contextual (disch := omega) [takeL, thumb_Take.l0, hs, aloop_unroll, thumb_Take.l1, field_d, field_c, field_n, field_m, field_i, field_0, h0, bits_0_3, bits_0_8, bits_0_11, bits_3_3, bits_6_3, bits_6_4, bits_6_5, bits_8_3, bits_8_4, h1, h2, hne, insBlk]
        rfl
      case b63 => (repeat' (first | assumption | with_reducible apply AHeap.WF.push | with_reducible apply AHeap.WF.set)) <;> simp <;> omega
      case c63 => simp (disch := omega) [insBlk, h0]
    · rw [Bool.not_eq_true] at hcn
      rw [hcn] at h1
      rw [cn13] at h1
      simp [InsAV] at h1
      refine ⟨?H64, ?a64, ?b64, ?c64⟩
      case a64 =>
        simp -implicitDefEqProofs +contextual (disch := omega) [takeL, thumb_Take.l0, hs, aloop_unroll, thumb_Take.l1, field_d, field_c, field_n, field_m, field_i, field_0, h0, bits_0_3, bits_0_8, bits_0_11, bits_3_3, bits_6_3, bits_6_4, bits_6_5, bits_8_3, bits_8_4, h1, insBlk]
        rfl
      case b64 => (repeat' (first | assumption | with_reducible apply AHeap.WF.push | with_reducible apply AHeap.WF.set)) <;> simp <;> omega
      case c64 => simp (disch := omega) [insBlk, h0]
set_option maxHeartbeats 2000000 in
theorem take14 (h : BitVec 16) (H : AHeap) (hw : H.WF) (i0 : InsM) (h0 : H.get 0 = some (insBlk i0)) : ∃ H' : AHeap,
    takeL (AFr.al [(0, W16 h), (2, .ptr 0 5 0 0), (10, .int .i64 14)]) H = (if isN 14 h.toNat = true then some (.ret, AFr.al [(2, .ptr 0 5 0 0), (3, .int .i64 0)], H') else some (.normal, AFr.al [(0, W16 h), (2, .ptr 0 5 0 0), (10, .int .i64 15)], H')) ∧
    H'.WF ∧ H'.get 0 = some (insBlk (if isN 14 h.toNat = true then candN 14 h.toNat else i0)) := by
  have hs := shapes14
  simp [shpAV, shp, partAV, ofc] at hs
  have hz := hw _ _ h0
  simp only [insBlk] at h0
  cases hi : isN 14 h.toNat with
  | true =>
    have hcn := hi
    simp only [isN, Bool.and_eq_true, beq_iff_eq] at hcn
    have h1 := can_eq (candN 14 h.toNat)
    have h2 := put_eq (candN 14 h.toNat) hcn.1
    rw [hcn.2, BitVec.ofNat_toNat, BitVec.setWidth_eq] at h2
    rw [hcn.1] at h1
    rw [cn14] at h1 h2 ⊢
    simp [InsAV] at h1 h2
    refine ⟨?H66, ?a66, ?b66, ?c66⟩
    case a66 =>
      simp -implicitDefEqProofs +contextual (disch := omega) [takeL, thumb_Take.l0, hs, aloop_unroll, thumb_Take.l1, field_d, field_c, field_n, field_m, field_i, field_0, h0, bits_0_3, bits_0_8, bits_0_11, bits_3_3, bits_6_3, bits_6_4, bits_6_5, bits_8_3, bits_8_4, h1, h2, insBlk]
      rfl
    case b66 => (repeat' (first | assumption | with_reducible apply AHeap.WF.push | with_reducible apply AHeap.WF.set)) <;> simp <;> omega
    case c66 => simp (disch := omega) [insBlk]
  | false =>
    have h1 := can_eq (candN 14 h.toNat)
    by_cases hcn : (candN 14 h.toNat).can = true
    · have h2 := put_eq (candN 14 h.toNat) hcn
      have hne : BitVec.ofNat 16 (putN (candN 14 h.toNat)) ≠ h := put_ne 14 h hcn hi
      generalize BitVec.ofNat 16 (putN (candN 14 h.toNat)) = y at h2 hne
      rw [hcn] at h1
      rw [cn14] at h1 h2
      simp [InsAV] at h1 h2
      refine ⟨?H67, ?a67, ?b67, ?c67⟩
      case a67 =>
        simp -implicitDefEqProofs +contextual (disch := omega) [takeL, thumb_Take.l0, hs, aloop_unroll, thumb_Take.l1, field_d, field_c, field_n, field_m, field_i, field_0, h0, bits_0_3, bits_0_8, bits_0_11, bits_3_3, bits_6_3, bits_6_4, bits_6_5, bits_8_3, bits_8_4, h1, h2, hne, insBlk]
        rfl
      case b67 => (repeat' (first | assumption | with_reducible apply AHeap.WF.push | with_reducible apply AHeap.WF.set)) <;> simp <;> omega
      case c67 => simp (disch := omega) [insBlk, h0]
    · rw [Bool.not_eq_true] at hcn
      rw [hcn] at h1
      rw [cn14] at h1
      simp [InsAV] at h1
      refine ⟨?H68, ?a68, ?b68, ?c68⟩
      case a68 =>
        simp -implicitDefEqProofs +contextual (disch := omega) [takeL, thumb_Take.l0, hs, aloop_unroll, thumb_Take.l1, field_d, field_c, field_n, field_m, field_i, field_0, h0, bits_0_3, bits_0_8, bits_0_11, bits_3_3, bits_6_3, bits_6_4, bits_6_5, bits_8_3, bits_8_4, h1, insBlk]
        rfl
      case b68 => (repeat' (first | assumption | with_reducible apply AHeap.WF.push | with_reducible apply AHeap.WF.set)) <;> simp <;> omega
      case c68 => simp (disch := omega) [insBlk, h0]
set_option maxHeartbeats 2000000 in
theorem take15 (h : BitVec 16) (H : AHeap) (hw : H.WF) (i0 : InsM) (h0 : H.get 0 = some (insBlk i0)) : ∃ H' : AHeap,
    takeL (AFr.al [(0, W16 h), (2, .ptr 0 5 0 0), (10, .int .i64 15)]) H = (if isN 15 h.toNat = true then some (.ret, AFr.al [(2, .ptr 0 5 0 0), (3, .int .i64 0)], H') else some (.normal, AFr.al [(0, W16 h), (2, .ptr 0 5 0 0), (10, .int .i64 16)], H')) ∧
    H'.WF ∧ H'.get 0 = some (insBlk (if isN 15 h.toNat = true then candN 15 h.toNat else i0)) := by
  have hs := shapes15
  simp [shpAV, shp, partAV, ofc] at hs
  have hz := hw _ _ h0
  simp only [insBlk] at h0
  cases hi : isN 15 h.toNat with
  | true =>
    have hcn := hi
    simp only [isN, Bool.and_eq_true, beq_iff_eq] at hcn
    have h1 := can_eq (candN 15 h.toNat)
    have h2 := put_eq (candN 15 h.toNat) hcn.1
    rw [hcn.2, BitVec.ofNat_toNat, BitVec.setWidth_eq] at h2
    rw [hcn.1] at h1
    rw [cn15] at h1 h2 ⊢
    simp [InsAV] at h1 h2
    refine ⟨?H70, ?a70, ?b70, ?c70⟩
    case a70 =>
      simp -implicitDefEqProofs +contextual (disch := omega) [takeL, thumb_Take.l0, hs, aloop_unroll, thumb_Take.l1, field_d, field_c, field_n, field_m, field_i, field_0, h0, bits_0_3, bits_0_8, bits_0_11, bits_3_3, bits_6_3, bits_6_4, bits_6_5, bits_8_3, bits_8_4, h1, h2, insBlk]
      rfl
    case b70 => (repeat' (first | assumption | with_reducible apply AHeap.WF.push | with_reducible apply AHeap.WF.set)) <;> simp <;> omega
    case c70 => simp (disch := omega) [insBlk]
  | false =>
    have h1 := can_eq (candN 15 h.toNat)
    by_cases hcn : (candN 15 h.toNat).can = true
    · have h2 := put_eq (candN 15 h.toNat) hcn
      have hne : BitVec.ofNat 16 (putN (candN 15 h.toNat)) ≠ h := put_ne 15 h hcn hi
      generalize BitVec.ofNat 16 (putN (candN 15 h.toNat)) = y at h2 hne
      rw [hcn] at h1
      rw [cn15] at h1 h2
      simp [InsAV] at h1 h2
      refine ⟨?H71, ?a71, ?b71, ?c71⟩
      case a71 =>
        simp -implicitDefEqProofs +contextual (disch := omega) [takeL, thumb_Take.l0, hs, aloop_unroll, thumb_Take.l1, field_d, field_c, field_n, field_m, field_i, field_0, h0, bits_0_3, bits_0_8, bits_0_11, bits_3_3, bits_6_3, bits_6_4, bits_6_5, bits_8_3, bits_8_4, h1, h2, hne, insBlk]
        rfl
      case b71 => (repeat' (first | assumption | with_reducible apply AHeap.WF.push | with_reducible apply AHeap.WF.set)) <;> simp <;> omega
      case c71 => simp (disch := omega) [insBlk, h0]
    · rw [Bool.not_eq_true] at hcn
      rw [hcn] at h1
      rw [cn15] at h1
      simp [InsAV] at h1
      refine ⟨?H72, ?a72, ?b72, ?c72⟩
      case a72 =>
        simp -implicitDefEqProofs +contextual (disch := omega) [takeL, thumb_Take.l0, hs, aloop_unroll, thumb_Take.l1, field_d, field_c, field_n, field_m, field_i, field_0, h0, bits_0_3, bits_0_8, bits_0_11, bits_3_3, bits_6_3, bits_6_4, bits_6_5, bits_8_3, bits_8_4, h1, insBlk]
        rfl
      case b72 => (repeat' (first | assumption | with_reducible apply AHeap.WF.push | with_reducible apply AHeap.WF.set)) <;> simp <;> omega
      case c72 => simp (disch := omega) [insBlk, h0]
set_option maxHeartbeats 2000000 in
theorem take16 (h : BitVec 16) (H : AHeap) (hw : H.WF) (i0 : InsM) (h0 : H.get 0 = some (insBlk i0)) : ∃ H' : AHeap,
    takeL (AFr.al [(0, W16 h), (2, .ptr 0 5 0 0), (10, .int .i64 16)]) H = (if isN 16 h.toNat = true then some (.ret, AFr.al [(2, .ptr 0 5 0 0), (3, .int .i64 0)], H') else some (.normal, AFr.al [(0, W16 h), (2, .ptr 0 5 0 0), (10, .int .i64 17)], H')) ∧
    H'.WF ∧ H'.get 0 = some (insBlk (if isN 16 h.toNat = true then candN 16 h.toNat else i0)) := by
  have hs := shapes16
  simp [shpAV, shp, partAV, ofc] at hs
  have hz := hw _ _ h0
  simp only [insBlk] at h0
  cases hi : isN 16 h.toNat with
  | true =>
    have hcn := hi
    simp only [isN, Bool.and_eq_true, beq_iff_eq] at hcn
    have h1 := can_eq (candN 16 h.toNat)
    have h2 := put_eq (candN 16 h.toNat) hcn.1
    rw [hcn.2, BitVec.ofNat_toNat, BitVec.setWidth_eq] at h2
    rw [hcn.1] at h1
    rw [cn16] at h1 h2 ⊢
    simp [InsAV] at h1 h2
    refine ⟨?H74, ?a74, ?b74, ?c74⟩
    case a74 =>
      simp -implicitDefEqProofs +contextual (disch := omega) [takeL, thumb_Take.l0, hs, aloop_unroll, thumb_Take.l1, field_d, field_c, field_n, field_m, field_i, field_0, h0, bits_0_3, bits_0_8, bits_0_11, bits_3_3, bits_6_3, bits_6_4, bits_6_5, bits_8_3, bits_8_4, h1, h2, insBlk]
      rfl
    case b74 => (repeat' (first | assumption | with_reducible apply AHeap.WF.push | with_reducible apply AHeap.WF.set)) <;> simp <;> omega
    case c74 => simp (disch := omega) [insBlk]
  | false =>
    have h1 := can_eq (candN 16 h.toNat)
    by_cases hcn : (candN 16 h.toNat).can = true
    · have h2 := put_eq (candN 16 h.toNat) hcn
      have hne : BitVec.ofNat 16 (putN (candN 16 h.toNat)) ≠ h := put_ne 16 h hcn hi
      generalize BitVec.ofNat 16 (putN (candN 16 h.toNat)) = y at h2 hne
      rw [hcn] at h1
      rw [cn16] at h1 h2
      simp [InsAV] at h1 h2
      refine ⟨?H75, ?a75, ?b75, ?c75⟩
      case a75 =>
        simp -implicitDefEqProofs +contextual (disch := omega) [takeL, thumb_Take.l0, hs, aloop_unroll, thumb_Take.l1, field_d, field_c, field_n, field_m, field_i, field_0, h0, bits_0_3, bits_0_8, bits_0_11, bits_3_3, bits_6_3, bits_6_4, bits_6_5, bits_8_3, bits_8_4, h1, h2, hne, insBlk]
        rfl
      case b75 => (repeat' (first | assumption | with_reducible apply AHeap.WF.push | with_reducible apply AHeap.WF.set)) <;> simp <;> omega
      case c75 => simp (disch := omega) [insBlk, h0]
    · rw [Bool.not_eq_true] at hcn
      rw [hcn] at h1
      rw [cn16] at h1
      simp [InsAV] at h1
      refine ⟨?H76, ?a76, ?b76, ?c76⟩
      case a76 =>
        simp -implicitDefEqProofs +contextual (disch := omega) [takeL, thumb_Take.l0, hs, aloop_unroll, thumb_Take.l1, field_d, field_c, field_n, field_m, field_i, field_0, h0, bits_0_3, bits_0_8, bits_0_11, bits_3_3, bits_6_3, bits_6_4, bits_6_5, bits_8_3, bits_8_4, h1, insBlk]
        rfl
      case b76 => (repeat' (first | assumption | with_reducible apply AHeap.WF.push | with_reducible apply AHeap.WF.set)) <;> simp <;> omega
      case c76 => simp (disch := omega) [insBlk, h0]
set_option maxHeartbeats 2000000 in
theorem take17 (h : BitVec 16) (H : AHeap) (hw : H.WF) (i0 : InsM) (h0 : H.get 0 = some (insBlk i0)) : ∃ H' : AHeap,
    takeL (AFr.al [(0, W16 h), (2, .ptr 0 5 0 0), (10, .int .i64 17)]) H = (if isN 17 h.toNat = true then some (.ret, AFr.al [(2, .ptr 0 5 0 0), (3, .int .i64 0)], H') else some (.normal, AFr.al [(0, W16 h), (2, .ptr 0 5 0 0), (10, .int .i64 18)], H')) ∧
    H'.WF ∧ H'.get 0 = some (insBlk (if isN 17 h.toNat = true then candN 17 h.toNat else i0)) := by
  have hs := shapes17
  simp [shpAV, shp, partAV, ofc] at hs
  have hz := hw _ _ h0
  simp only [insBlk] at h0
  by_cases hx : (1023 : Int) < (h.toNat : Int) % 2048
  · cases hi : isN 17 h.toNat with
    | true =>
      have hcn := hi
      simp only [isN, Bool.and_eq_true, beq_iff_eq] at hcn
      have h1 := can_eq (candN 17 h.toNat)
      have h2 := put_eq (candN 17 h.toNat) hcn.1
      rw [hcn.2, BitVec.ofNat_toNat, BitVec.setWidth_eq] at h2
      rw [hcn.1] at h1
      rw [cn17] at h1 h2 ⊢
      simp [InsAV, hx] at h1 h2
      refine ⟨?H78, ?a78, ?b78, ?c78⟩
      case a78 =>
        simp -implicitDefEqProofs +contextual (disch := omega) [takeL, thumb_Take.l0, hs, aloop_unroll, thumb_Take.l1, field_d, field_c, field_n, field_m, field_i, field_0, h0, bits_0_3, bits_0_8, bits_0_11, bits_3_3, bits_6_3, bits_6_4, bits_6_5, bits_8_3, bits_8_4, h1, h2, insBlk, hx]
        rfl
      case b78 => (repeat' (first | assumption | with_reducible apply AHeap.WF.push | with_reducible apply AHeap.WF.set)) <;> simp <;> omega
      case c78 => simp (disch := omega) [insBlk, hx]
    | false =>
      have h1 := can_eq (candN 17 h.toNat)
      by_cases hcn : (candN 17 h.toNat).can = true
      · have h2 := put_eq (candN 17 h.toNat) hcn
        have hne : BitVec.ofNat 16 (putN (candN 17 h.toNat)) ≠ h := put_ne 17 h hcn hi
        generalize BitVec.ofNat 16 (putN (candN 17 h.toNat)) = y at h2 hne
        rw [hcn] at h1
        rw [cn17] at h1 h2
        simp [InsAV, hx] at h1 h2
        refine ⟨?H79, ?a79, ?b79, ?c79⟩
        case a79 =>
          simp -implicitDefEqProofs +contextual (disch := omega) [takeL, thumb_Take.l0, hs, aloop_unroll, thumb_Take.l1, field_d, field_c, field_n, field_m, field_i, field_0, h0, bits_0_3, bits_0_8, bits_0_11, bits_3_3, bits_6_3, bits_6_4, bits_6_5, bits_8_3, bits_8_4, h1, h2, hne, insBlk, hx]
          rfl
        case b79 => (repeat' (first | assumption | with_reducible apply AHeap.WF.push | with_reducible apply AHeap.WF.set)) <;> simp <;> omega
        case c79 => simp (disch := omega) [insBlk, hx, h0]
      · rw [Bool.not_eq_true] at hcn
        rw [hcn] at h1
        rw [cn17] at h1
        simp [InsAV, hx] at h1
        refine ⟨?H80, ?a80, ?b80, ?c80⟩
        case a80 =>
          simp -implicitDefEqProofs +contextual (disch := omega) [takeL, thumb_Take.l0, hs, aloop_unroll, thumb_Take.l1, field_d, field_c, field_n, field_m, field_i, field_0, h0, bits_0_3, bits_0_8, bits_0_11, bits_3_3, bits_6_3, bits_6_4, bits_6_5, bits_8_3, bits_8_4, h1, insBlk, hx]
          rfl
        case b80 => (repeat' (first | assumption | with_reducible apply AHeap.WF.push | with_reducible apply AHeap.WF.set)) <;> simp <;> omega
        case c80 => simp (disch := omega) [insBlk, hx, h0]
  · cases hi : isN 17 h.toNat with
    | true =>
      have hcn := hi
      simp only [isN, Bool.and_eq_true, beq_iff_eq] at hcn
      have h1 := can_eq (candN 17 h.toNat)
      have h2 := put_eq (candN 17 h.toNat) hcn.1
      rw [hcn.2, BitVec.ofNat_toNat, BitVec.setWidth_eq] at h2
      rw [hcn.1] at h1
      rw [cn17] at h1 h2 ⊢
      simp [InsAV, hx] at h1 h2
      refine ⟨?H82, ?a82, ?b82, ?c82⟩
      case a82 =>
        simp -implicitDefEqProofs +contextual (disch := omega) [takeL, thumb_Take.l0, hs, aloop_unroll, thumb_Take.l1, field_d, field_c, field_n, field_m, field_i, field_0, h0, bits_0_3, bits_0_8, bits_0_11, bits_3_3, bits_6_3, bits_6_4, bits_6_5, bits_8_3, bits_8_4, h1, h2, insBlk, hx]
        rfl
      case b82 => (repeat' (first | assumption | with_reducible apply AHeap.WF.push | with_reducible apply AHeap.WF.set)) <;> simp <;> omega
      case c82 => simp (disch := omega) [insBlk, hx]
    | false =>
      have h1 := can_eq (candN 17 h.toNat)
      by_cases hcn : (candN 17 h.toNat).can = true
      · have h2 := put_eq (candN 17 h.toNat) hcn
        have hne : BitVec.ofNat 16 (putN (candN 17 h.toNat)) ≠ h := put_ne 17 h hcn hi
        generalize BitVec.ofNat 16 (putN (candN 17 h.toNat)) = y at h2 hne
        rw [hcn] at h1
        rw [cn17] at h1 h2
        simp [InsAV, hx] at h1 h2
        refine ⟨?H83, ?a83, ?b83, ?c83⟩
        case a83 =>
          simp -implicitDefEqProofs +contextual (disch := omega) [takeL, thumb_Take.l0, hs, aloop_unroll, thumb_Take.l1, field_d, field_c, field_n, field_m, field_i, field_0, h0, bits_0_3, bits_0_8, bits_0_11, bits_3_3, bits_6_3, bits_6_4, bits_6_5, bits_8_3, bits_8_4, h1, h2, hne, insBlk, hx]
          rfl
        case b83 => (repeat' (first | assumption | with_reducible apply AHeap.WF.push | with_reducible apply AHeap.WF.set)) <;> simp <;> omega
        case c83 => simp (disch := omega) [insBlk, hx, h0]
      · rw [Bool.not_eq_true] at hcn
        rw [hcn] at h1
        rw [cn17] at h1
        simp [InsAV, hx] at h1
        refine ⟨?H84, ?a84, ?b84, ?c84⟩
        case a84 =>
          simp -implicitDefEqProofs +contextual (disch := omega) [takeL, thumb_Take.l0, hs, aloop_unroll, thumb_Take.l1, field_d, field_c, field_n, field_m, field_i, field_0, h0, bits_0_3, bits_0_8, bits_0_11, bits_3_3, bits_6_3, bits_6_4, bits_6_5, bits_8_3, bits_8_4, h1, insBlk, hx]
          rfl
        case b84 => (repeat' (first | assumption | with_reducible apply AHeap.WF.push | with_reducible apply AHeap.WF.set)) <;> simp <;> omega
        case c84 => simp (disch := omega) [insBlk, hx, h0]
set_option maxHeartbeats 2000000 in
theorem take18 (h : BitVec 16) (H : AHeap) (hw : H.WF) (i0 : InsM) (h0 : H.get 0 = some (insBlk i0)) : ∃ H' : AHeap,
    takeL (AFr.al [(0, W16 h), (2, .ptr 0 5 0 0), (10, .int .i64 18)]) H = (if isN 18 h.toNat = true then some (.ret, AFr.al [(2, .ptr 0 5 0 0), (3, .int .i64 0)], H') else some (.normal, AFr.al [(0, W16 h), (2, .ptr 0 5 0 0), (10, .int .i64 19)], H')) ∧
    H'.WF ∧ H'.get 0 = some (insBlk (if isN 18 h.toNat = true then candN 18 h.toNat else i0)) := by
  have hs := shapes18
  simp [shpAV, shp, partAV, ofc] at hs
  have hz := hw _ _ h0
  simp only [insBlk] at h0
  by_cases hx : (127 : Int) < (h.toNat : Int) % 256
  · cases hi : isN 18 h.toNat with
    | true =>
      have hcn := hi
      simp only [isN, Bool.and_eq_true, beq_iff_eq] at hcn
      have h1 := can_eq (candN 18 h.toNat)
      have h2 := put_eq (candN 18 h.toNat) hcn.1
      rw [hcn.2, BitVec.ofNat_toNat, BitVec.setWidth_eq] at h2
      rw [hcn.1] at h1
      rw [cn18] at h1 h2 ⊢
      simp [InsAV, hx] at h1 h2
      refine ⟨?H86, ?a86, ?b86, ?c86⟩
      case a86 =>
        simp -implicitDefEqProofs +contextual (disch := omega) [takeL, thumb_Take.l0, hs, aloop_unroll, thumb_Take.l1, field_d, field_c, field_n, field_m, field_i, field_0, h0, bits_0_3, bits_0_8, bits_0_11, bits_3_3, bits_6_3, bits_6_4, bits_6_5, bits_8_3, bits_8_4, h1, h2, insBlk, hx]
        rfl
      case b86 => (repeat' (first | assumption | with_reducible apply AHeap.WF.push | with_reducible apply AHeap.WF.set)) <;> simp <;> omega
      case c86 => simp (disch := omega) [insBlk, hx]
    | false =>
      have h1 := can_eq (candN 18 h.toNat)
      by_cases hcn : (candN 18 h.toNat).can = true
      · have h2 := put_eq (candN 18 h.toNat) hcn
        have hne : BitVec.ofNat 16 (putN (candN 18 h.toNat)) ≠ h := put_ne 18 h hcn hi
        generalize BitVec.ofNat 16 (putN (candN 18 h.toNat)) = y at h2 hne
        rw [hcn] at h1
        rw [cn18] at h1 h2
        simp [InsAV, hx] at h1 h2
        refine ⟨?H87, ?a87, ?b87, ?c87⟩
        case a87 =>
          simp -implicitDefEqProofs +contextual (disch := omega) [takeL, thumb_Take.l0, hs, aloop_unroll, thumb_Take.l1, field_d, field_c, field_n, field_m, field_i, field_0, h0, bits_0_3, bits_0_8, bits_0_11, bits_3_3, bits_6_3, bits_6_4, bits_6_5, bits_8_3, bits_8_4, h1, h2, hne, insBlk, hx]
          rfl
        case b87 => (repeat' (first | assumption | with_reducible apply AHeap.WF.push | with_reducible apply AHeap.WF.set)) <;> simp <;> omega
        case c87 => simp (disch := omega) [insBlk, hx, h0]
      · rw [Bool.not_eq_true] at hcn
        rw [hcn] at h1
        rw [cn18] at h1
        simp [InsAV, hx] at h1
        refine ⟨?H88, ?a88, ?b88, ?c88⟩
        case a88 =>
          simp -implicitDefEqProofs +contextual (disch := omega) [takeL, thumb_Take.l0, hs, aloop_unroll, thumb_Take.l1, field_d, field_c, field_n, field_m, field_i, field_0, h0, bits_0_3, bits_0_8, bits_0_11, bits_3_3, bits_6_3, bits_6_4, bits_6_5, bits_8_3, bits_8_4, h1, insBlk, hx]
          rfl
        case b88 => (repeat' (first | assumption | with_reducible apply AHeap.WF.push | with_reducible apply AHeap.WF.set)) <;> simp <;> omega
        case c88 => simp (disch := omega) [insBlk, hx, h0]
  · cases hi : isN 18 h.toNat with
    | true =>
      have hcn := hi
      simp only [isN, Bool.and_eq_true, beq_iff_eq] at hcn
      have h1 := can_eq (candN 18 h.toNat)
      have h2 := put_eq (candN 18 h.toNat) hcn.1
      rw [hcn.2, BitVec.ofNat_toNat, BitVec.setWidth_eq] at h2
      rw [hcn.1] at h1
      rw [cn18] at h1 h2 ⊢
      simp [InsAV, hx] at h1 h2
      refine ⟨?H90, ?a90, ?b90, ?c90⟩
      case a90 =>
        simp -implicitDefEqProofs +contextual (disch := omega) [takeL, thumb_Take.l0, hs, aloop_unroll, thumb_Take.l1, field_d, field_c, field_n, field_m, field_i, field_0, h0, bits_0_3, bits_0_8, bits_0_11, bits_3_3, bits_6_3, bits_6_4, bits_6_5, bits_8_3, bits_8_4, h1, h2, insBlk, hx]
        rfl
      case b90 => (repeat' (first | assumption | with_reducible apply AHeap.WF.push | with_reducible apply AHeap.WF.set)) <;> simp <;> omega
      case c90 => simp (disch := omega) [insBlk, hx]
    | false =>
      have h1 := can_eq (candN 18 h.toNat)
      by_cases hcn : (candN 18 h.toNat).can = true
      · have h2 := put_eq (candN 18 h.toNat) hcn
        have hne : BitVec.ofNat 16 (putN (candN 18 h.toNat)) ≠ h := put_ne 18 h hcn hi
        generalize BitVec.ofNat 16 (putN (candN 18 h.toNat)) = y at h2 hne
        rw [hcn] at h1
        rw [cn18] at h1 h2
        simp [InsAV, hx] at h1 h2
        refine ⟨?H91, ?a91, ?b91, ?c91⟩
        case a91 =>
          simp -implicitDefEqProofs +contextual (disch := omega) [takeL, thumb_Take.l0, hs, aloop_unroll, thumb_Take.l1, field_d, field_c, field_n, field_m, field_i, field_0, h0, bits_0_3, bits_0_8, bits_0_11, bits_3_3, bits_6_3, bits_6_4, bits_6_5, bits_8_3, bits_8_4, h1, h2, hne, insBlk, hx]
          rfl
        case b91 => (repeat' (first | assumption | with_reducible apply AHeap.WF.push | with_reducible apply AHeap.WF.set)) <;> simp <;> omega
        case c91 => simp (disch := omega) [insBlk, hx, h0]
      · rw [Bool.not_eq_true] at hcn
        rw [hcn] at h1
        rw [cn18] at h1
        simp [InsAV, hx] at h1
        refine ⟨?H92, ?a92, ?b92, ?c92⟩
        case a92 =>
          simp -implicitDefEqProofs +contextual (disch := omega) [takeL, thumb_Take.l0, hs, aloop_unroll, thumb_Take.l1, field_d, field_c, field_n, field_m, field_i, field_0, h0, bits_0_3, bits_0_8, bits_0_11, bits_3_3, bits_6_3, bits_6_4, bits_6_5, bits_8_3, bits_8_4, h1, insBlk, hx]
          rfl
        case b92 => (repeat' (first | assumption | with_reducible apply AHeap.WF.push | with_reducible apply AHeap.WF.set)) <;> simp <;> omega
        case c92 => simp (disch := omega) [insBlk, hx, h0]
set_option maxHeartbeats 2000000 in
theorem take19 (h : BitVec 16) (H : AHeap) (hw : H.WF) (i0 : InsM) (h0 : H.get 0 = some (insBlk i0)) : ∃ H' : AHeap,
    takeL (AFr.al [(0, W16 h), (2, .ptr 0 5 0 0), (10, .int .i64 19)]) H = (if isN 19 h.toNat = true then some (.ret, AFr.al [(2, .ptr 0 5 0 0), (3, .int .i64 0)], H') else some (.normal, AFr.al [(0, W16 h), (2, .ptr 0 5 0 0), (10, .int .i64 20)], H')) ∧
    H'.WF ∧ H'.get 0 = some (insBlk (if isN 19 h.toNat = true then candN 19 h.toNat else i0)) := by
  have hs := shapes19
  simp [shpAV, shp, partAV, ofc] at hs
  have hz := hw _ _ h0
  simp only [insBlk] at h0
  cases hi : isN 19 h.toNat with
  | true =>
    have hcn := hi
    simp only [isN, Bool.and_eq_true, beq_iff_eq] at hcn
    have h1 := can_eq (candN 19 h.toNat)
    have h2 := put_eq (candN 19 h.toNat) hcn.1
    rw [hcn.2, BitVec.ofNat_toNat, BitVec.setWidth_eq] at h2
    rw [hcn.1] at h1
    rw [cn19] at h1 h2 ⊢
    simp [InsAV] at h1 h2
    refine ⟨?H94, ?a94, ?b94, ?c94⟩
    case a94 =>
      simp -implicitDefEqProofs +contextual (disch := omega) [takeL, thumb_Take.l0, hs, aloop_unroll, thumb_Take.l1, field_d, field_c, field_n, field_m, field_i, field_0, h0, bits_0_3, bits_0_8, bits_0_11, bits_3_3, bits_6_3, bits_6_4, bits_6_5, bits_8_3, bits_8_4, h1, h2, insBlk]
      rfl
    case b94 => (repeat' (first | assumption | with_reducible apply AHeap.WF.push | with_reducible apply AHeap.WF.set)) <;> simp <;> omega
    case c94 => simp (disch := omega) [insBlk]
  | false =>
    have h1 := can_eq (candN 19 h.toNat)
    by_cases hcn : (candN 19 h.toNat).can = true
    · have h2 := put_eq (candN 19 h.toNat) hcn
      have hne : BitVec.ofNat 16 (putN (candN 19 h.toNat)) ≠ h := put_ne 19 h hcn hi
      generalize BitVec.ofNat 16 (putN (candN 19 h.toNat)) = y at h2 hne
      rw [hcn] at h1
      rw [cn19] at h1 h2
      simp [InsAV] at h1 h2
      refine ⟨?H95, ?a95, ?b95, ?c95⟩
      case a95 =>
        simp -implicitDefEqProofs +contextual (disch := omega) [takeL, thumb_Take.l0, hs, aloop_unroll, thumb_Take.l1, field_d, field_c, field_n, field_m, field_i, field_0, h0, bits_0_3, bits_0_8, bits_0_11, bits_3_3, bits_6_3, bits_6_4, bits_6_5, bits_8_3, bits_8_4, h1, h2, hne, insBlk]
        rfl
      case b95 => (repeat' (first | assumption | with_reducible apply AHeap.WF.push | with_reducible apply AHeap.WF.set)) <;> simp <;> omega
      case c95 => simp (disch := omega) [insBlk, h0]
    · rw [Bool.not_eq_true] at hcn
      rw [hcn] at h1
      rw [cn19] at h1
      simp [InsAV] at h1
      refine ⟨?H96, ?a96, ?b96, ?c96⟩
      case a96 =>
        simp -implicitDefEqProofs +contextual (disch := omega) [takeL, thumb_Take.l0, hs, aloop_unroll, thumb_Take.l1, field_d, field_c, field_n, field_m, field_i, field_0, h0, bits_0_3, bits_0_8, bits_0_11, bits_3_3, bits_6_3, bits_6_4, bits_6_5, bits_8_3, bits_8_4, h1, insBlk]
        rfl
      case b96 => (repeat' (first | assumption | with_reducible apply AHeap.WF.push | with_reducible apply AHeap.WF.set)) <;> simp <;> omega
      case c96 => simp (disch := omega) [insBlk, h0]
set_option maxHeartbeats 2000000 in
theorem take20 (h : BitVec 16) (H : AHeap) (hw : H.WF) (i0 : InsM) (h0 : H.get 0 = some (insBlk i0)) : ∃ H' : AHeap,
    takeL (AFr.al [(0, W16 h), (2, .ptr 0 5 0 0), (10, .int .i64 20)]) H = (if isN 20 h.toNat = true then some (.ret, AFr.al [(2, .ptr 0 5 0 0), (3, .int .i64 0)], H') else some (.normal, AFr.al [(0, W16 h), (2, .ptr 0 5 0 0), (10, .int .i64 21)], H')) ∧
    H'.WF ∧ H'.get 0 = some (insBlk (if isN 20 h.toNat = true then candN 20 h.toNat else i0)) := by
  have hs := shapes20
  simp [shpAV, shp, partAV, ofc] at hs
  have hz := hw _ _ h0
  simp only [insBlk] at h0
  cases hi : isN 20 h.toNat with
  | true =>
    have hcn := hi
    simp only [isN, Bool.and_eq_true, beq_iff_eq] at hcn
    have h1 := can_eq (candN 20 h.toNat)
    have h2 := put_eq (candN 20 h.toNat) hcn.1
    rw [hcn.2, BitVec.ofNat_toNat, BitVec.setWidth_eq] at h2
    rw [hcn.1] at h1
    rw [cn20] at h1 h2 ⊢
    simp [InsAV] at h1 h2
    refine ⟨?H98, ?a98, ?b98, ?c98⟩
    case a98 =>
      simp -implicitDefEqProofs +contextual (disch := omega) [takeL, thumb_Take.l0, hs, aloop_unroll, thumb_Take.l1, field_d, field_c, field_n, field_m, field_i, field_0, h0, bits_0_3, bits_0_8, bits_0_11, bits_3_3, bits_6_3, bits_6_4, bits_6_5, bits_8_3, bits_8_4, h1, h2, insBlk]
      rfl
    case b98 => (repeat' (first | assumption | with_reducible apply AHeap.WF.push | with_reducible apply AHeap.WF.set)) <;> simp <;> omega
    case c98 => simp (disch := omega) [insBlk]
  | false =>
    have h1 := can_eq (candN 20 h.toNat)
    by_cases hcn : (candN 20 h.toNat).can = true
    · have h2 := put_eq (candN 20 h.toNat) hcn
      have hne : BitVec.ofNat 16 (putN (candN 20 h.toNat)) ≠ h := put_ne 20 h hcn hi
      generalize BitVec.ofNat 16 (putN (candN 20 h.toNat)) = y at h2 hne
      rw [hcn] at h1
      rw [cn20] at h1 h2
      simp [InsAV] at h1 h2
      refine ⟨?H99, ?a99, ?b99, ?c99⟩
      case a99 =>
        simp -implicitDefEqProofs +contextual (disch := omega) [takeL, thumb_Take.l0, hs, aloop_unroll, thumb_Take.l1, field_d, field_c, field_n, field_m, field_i, field_0, h0, bits_0_3, bits_0_8, bits_0_11, bits_3_3, bits_6_3, bits_6_4, bits_6_5, bits_8_3, bits_8_4, h1, h2, hne, insBlk]
        rfl
      case b99 => (repeat' (first | assumption | with_reducible apply AHeap.WF.push | with_reducible apply AHeap.WF.set)) <;> simp <;> omega
      case c99 => simp (disch := omega) [insBlk, h0]
    · rw [Bool.not_eq_true] at hcn
      rw [hcn] at h1
      rw [cn20] at h1
      simp [InsAV] at h1
      refine ⟨?H100, ?a100, ?b100, ?c100⟩
      case a100 =>
        simp -implicitDefEqProofs +contextual (disch := omega) [takeL, thumb_Take.l0, hs, aloop_unroll, thumb_Take.l1, field_d, field_c, field_n, field_m, field_i, field_0, h0, bits_0_3, bits_0_8, bits_0_11, bits_3_3, bits_6_3, bits_6_4, bits_6_5, bits_8_3, bits_8_4, h1, insBlk]
        rfl
      case b100 => (repeat' (first | assumption | with_reducible apply AHeap.WF.push | with_reducible apply AHeap.WF.set)) <;> simp <;> omega
      case c100 => simp (disch := omega) [insBlk, h0]
end Go.Abs
