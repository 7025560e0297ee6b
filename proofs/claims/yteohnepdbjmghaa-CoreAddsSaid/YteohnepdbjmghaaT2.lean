/-
  Instructions and their halfwords: which instruction a halfword is. Printed by gent2.py.
-/
import Derived.Test.YteohnepdbjmghaaT1
set_option linter.unusedSimpArgs false
set_option linter.unusedVariables false
namespace Go.Abs
open Th
theorem can_eq (i : InsM) : thumb_can.spec [InsAV i] = some (.bool i.can) := by
  obtain ⟨op, d, n, m, imm⟩ := i
  by_cases h : 0 ≤ op ∧ op ≤ 20
  · obtain ⟨k, rfl⟩ : ∃ k : Nat, op = k := ⟨op.toNat, by omega⟩
    exact cases21 (P := fun k => thumb_can.spec [InsAV ⟨k, d, n, m, imm⟩] = some (.bool (InsM.mk k d n m imm).can)) k (by omega) (can0 d n m imm) (can1 d n m imm) (can2 d n m imm) (can3 d n m imm) (can4 d n m imm) (can5 d n m imm) (can6 d n m imm) (can7 d n m imm) (can8 d n m imm) (can9 d n m imm) (can10 d n m imm)
      (can11 d n m imm) (can12 d n m imm) (can13 d n m imm) (can14 d n m imm) (can15 d n m imm) (can16 d n m imm) (can17 d n m imm) (can18 d n m imm) (can19 d n m imm) (can20 d n m imm)
  · have hc : (InsM.mk op d n m imm).can = false := by
      rw [Bool.eq_false_iff, Ne, can_iff]; exact fun q => h q.1
    have h' : op < 0 ∨ 21 ≤ op := by omega
    rw [hc]
    simp -implicitDefEqProofs +contextual (disch := omega) [thumb_can.spec, thumb_can, InsAV, h']
theorem put_eq (i : InsM) (hc : i.can = true) : thumb_put.spec [InsAV i] = some (W16 (BitVec.ofNat 16 (putN i))) := by
  obtain ⟨op, d, n, m, imm⟩ := i
  have h := ((can_iff _).1 hc).1
  dsimp only at h
  obtain ⟨k, rfl⟩ : ∃ k : Nat, op = k := ⟨op.toNat, by omega⟩
  revert hc
  exact cases21 (P := fun k => (InsM.mk k d n m imm).can = true → thumb_put.spec [InsAV ⟨k, d, n, m, imm⟩] = some (W16 (BitVec.ofNat 16 (putN ⟨k, d, n, m, imm⟩)))) k (by omega) (put0 d n m imm) (put1 d n m imm) (put2 d n m imm) (put3 d n m imm) (put4 d n m imm) (put5 d n m imm) (put6 d n m imm) (put7 d n m imm) (put8 d n m imm) (put9 d n m imm) (put10 d n m imm)
    (put11 d n m imm) (put12 d n m imm) (put13 d n m imm) (put14 d n m imm) (put15 d n m imm) (put16 d n m imm) (put17 d n m imm) (put18 d n m imm) (put19 d n m imm) (put20 d n m imm)
theorem put_ne (op : Nat) (h : BitVec 16) (hc : (candN op h.toNat).can = true) (hi : isN op h.toNat = false) : BitVec.ofNat 16 (putN (candN op h.toNat)) ≠ h := by
  intro q
  have h1 := congrArg BitVec.toNat q
  rw [BitVec.toNat_ofNat, Nat.mod_eq_of_lt (by have := (forth _ hc).2.2; omega)] at h1
  simp [isN, hc, h1] at hi
theorem bits_and (h : BitVec 16) (at_ w : Nat) (hw : w < 16) : h.toNat >>> at_ &&& (2 ^ w - 1) = h.toNat / 2 ^ at_ % 2 ^ w := by
  rw [Nat.and_two_pow_sub_one_eq_mod, Nat.shiftRight_eq_div_pow]
def insBlk (i : InsM) : Blk := ⟨T.ty_api_Ins, 5, true, [[.int .i64 i.op, .int .i64 i.d, .int .i64 i.n, .int .i64 i.m, .int .i64 i.imm]]⟩
noncomputable abbrev takeL := thumb_Take.l0 thumb_shapes.spec thumb_field.spec thumb_can.spec thumb_put.spec
theorem bits_0_3 (h : BitVec 16) : h.toNat &&& 7 = h.toNat % 8 := by have := bits_and h 0 3 (by omega); simpa using this
theorem bits_0_8 (h : BitVec 16) : h.toNat &&& 255 = h.toNat % 256 := by have := bits_and h 0 8 (by omega); simpa using this
theorem bits_0_11 (h : BitVec 16) : h.toNat &&& 2047 = h.toNat % 2048 := by have := bits_and h 0 11 (by omega); simpa using this
theorem bits_3_3 (h : BitVec 16) : h.toNat >>> 3 &&& 7 = h.toNat / 8 % 8 := bits_and h 3 3 (by omega)
theorem bits_6_3 (h : BitVec 16) : h.toNat >>> 6 &&& 7 = h.toNat / 64 % 8 := bits_and h 6 3 (by omega)
theorem bits_6_4 (h : BitVec 16) : h.toNat >>> 6 &&& 15 = h.toNat / 64 % 16 := bits_and h 6 4 (by omega)
theorem bits_6_5 (h : BitVec 16) : h.toNat >>> 6 &&& 31 = h.toNat / 64 % 32 := bits_and h 6 5 (by omega)
theorem bits_8_3 (h : BitVec 16) : h.toNat >>> 8 &&& 7 = h.toNat / 256 % 8 := bits_and h 8 3 (by omega)
theorem bits_8_4 (h : BitVec 16) : h.toNat >>> 8 &&& 15 = h.toNat / 256 % 16 := bits_and h 8 4 (by omega)
theorem shapes_any (op : Nat) (h : op ≤ 20) : thumb_shapes.spec [.int .i64 (op : Nat)] = some (shpAV op) :=
  cases21 (P := fun op => thumb_shapes.spec [.int .i64 (op : Nat)] = some (shpAV op)) op h shapes0 shapes1 shapes2 shapes3 shapes4 shapes5 shapes6 shapes7 shapes8 shapes9 shapes10 shapes11 shapes12 shapes13 shapes14 shapes15 shapes16 shapes17 shapes18 shapes19 shapes20
set_option maxHeartbeats 40000000 in
theorem take_most (op : Nat) (hop : op = 0 ∨ op = 1 ∨ op = 2 ∨ op = 3 ∨ op = 4 ∨ op = 7 ∨ op = 8 ∨ op = 9 ∨ op = 10 ∨ op = 11 ∨ op = 12 ∨ op = 13 ∨ op = 14 ∨ op = 15 ∨ op = 16 ∨ op = 19 ∨ op = 20) (h : BitVec 16) (H : AHeap) (hw : H.WF) (i0 : InsM) (h0 : H.get 0 = some (insBlk i0)) : ∃ H' : AHeap,
    takeL (AFr.al [(0, W16 h), (2, .ptr 0 5 0 0), (10, .int .i64 (op : Nat))]) H = (if isN op h.toNat = true then some (.ret, AFr.al [(2, .ptr 0 5 0 0), (3, .int .i64 0)], H') else some (.normal, AFr.al [(0, W16 h), (2, .ptr 0 5 0 0), (10, .int .i64 (op + 1 : Nat))], H')) ∧
    H'.WF ∧ H'.get 0 = some (insBlk (if isN op h.toNat = true then candN op h.toNat else i0)) := by
  have hs := shapes_any op (by omega)
  have hz := hw _ _ h0
  simp only [insBlk] at h0
  cases hi : isN op h.toNat with
  | true =>
    have hcn := hi
    simp only [isN, Bool.and_eq_true, beq_iff_eq] at hcn
    have h1 := can_eq (candN op h.toNat)
    have h2 := put_eq (candN op h.toNat) hcn.1
    rw [hcn.2, BitVec.ofNat_toNat, BitVec.setWidth_eq] at h2
    rw [hcn.1] at h1
    clear hcn hi
    obtain rfl | rfl | rfl | rfl | rfl | rfl | rfl | rfl | rfl | rfl | rfl | rfl | rfl | rfl | rfl | rfl | rfl := hop
    all_goals
      simp [shpAV, shp, partAV, ofc] at hs
      push_cast at hs ⊢
      simp only [cn0, cn1, cn2, cn3, cn4, cn7, cn8, cn9, cn10, cn11, cn12, cn13, cn14, cn15, cn16, cn19, cn20] at h1 h2 ⊢
      simp [InsAV] at h1 h2
      refine ⟨?_, ?_, ?_, ?_⟩
      rotate_left
      · simp -implicitDefEqProofs +contextual (disch := omega) [takeL, thumb_Take.l0, hs, aloop_unroll, thumb_Take.l1, field_d, field_c, field_n, field_m, field_i, field_0, h0, bits_0_3, bits_0_8, bits_0_11, bits_3_3, bits_6_3, bits_6_4, bits_6_5, bits_8_3, bits_8_4, h1, h2, insBlk]
        rfl
      · (repeat' (first | assumption | with_reducible apply AHeap.WF.push | with_reducible apply AHeap.WF.set)) <;> simp <;> omega
      · simp (disch := omega) [insBlk]
  | false =>
    have h1 := can_eq (candN op h.toNat)
    by_cases hcn : (candN op h.toNat).can = true
    · have h2 := put_eq (candN op h.toNat) hcn
      have hne : BitVec.ofNat 16 (putN (candN op h.toNat)) ≠ h := put_ne op h hcn hi
      generalize BitVec.ofNat 16 (putN (candN op h.toNat)) = y at h2 hne
      rw [hcn] at h1
      clear hcn hi
      obtain rfl | rfl | rfl | rfl | rfl | rfl | rfl | rfl | rfl | rfl | rfl | rfl | rfl | rfl | rfl | rfl | rfl := hop
      all_goals
        simp [shpAV, shp, partAV, ofc] at hs
        push_cast at hs ⊢
        simp only [cn0, cn1, cn2, cn3, cn4, cn7, cn8, cn9, cn10, cn11, cn12, cn13, cn14, cn15, cn16, cn19, cn20] at h1 h2
        simp [InsAV] at h1 h2
        refine ⟨?_, ?_, ?_, ?_⟩
        rotate_left
        · simp -implicitDefEqProofs +contextual (disch := omega) [takeL, thumb_Take.l0, hs, aloop_unroll, thumb_Take.l1, field_d, field_c, field_n, field_m, field_i, field_0, h0, bits_0_3, bits_0_8, bits_0_11, bits_3_3, bits_6_3, bits_6_4, bits_6_5, bits_8_3, bits_8_4, h1, h2, hne, insBlk]
          rfl
        · (repeat' (first | assumption | with_reducible apply AHeap.WF.push | with_reducible apply AHeap.WF.set)) <;> simp <;> omega
        · simp (disch := omega) [insBlk, h0]
    · rw [Bool.not_eq_true] at hcn
      rw [hcn] at h1
      clear hcn hi
      obtain rfl | rfl | rfl | rfl | rfl | rfl | rfl | rfl | rfl | rfl | rfl | rfl | rfl | rfl | rfl | rfl | rfl := hop
      all_goals
        simp [shpAV, shp, partAV, ofc] at hs
        push_cast at hs ⊢
        simp only [cn0, cn1, cn2, cn3, cn4, cn7, cn8, cn9, cn10, cn11, cn12, cn13, cn14, cn15, cn16, cn19, cn20] at h1
        simp [InsAV] at h1
        refine ⟨?_, ?_, ?_, ?_⟩
        rotate_left
        · simp -implicitDefEqProofs +contextual (disch := omega) [takeL, thumb_Take.l0, hs, aloop_unroll, thumb_Take.l1, field_d, field_c, field_n, field_m, field_i, field_0, h0, bits_0_3, bits_0_8, bits_0_11, bits_3_3, bits_6_3, bits_6_4, bits_6_5, bits_8_3, bits_8_4, h1, insBlk]
          rfl
        · (repeat' (first | assumption | with_reducible apply AHeap.WF.push | with_reducible apply AHeap.WF.set)) <;> simp <;> omega
        · simp (disch := omega) [insBlk, h0]
set_option maxHeartbeats 2000000 in
theorem take5 (h : BitVec 16) (H : AHeap) (hw : H.WF) (i0 : InsM) (h0 : H.get 0 = some (insBlk i0)) : ∃ H' : AHeap,
    takeL (AFr.al [(0, W16 h), (2, .ptr 0 5 0 0), (10, .int .i64 5)]) H = (if isN 5 h.toNat = true then some (.ret, AFr.al [(2, .ptr 0 5 0 0), (3, .int .i64 0)], H') else some (.normal, AFr.al [(0, W16 h), (2, .ptr 0 5 0 0), (10, .int .i64 6)], H')) ∧
    H'.WF ∧ H'.get 0 = some (insBlk (if isN 5 h.toNat = true then candN 5 h.toNat else i0)) := by
  have hs := shapes5
  simp [shpAV, shp, partAV, ofc] at hs
  have hz := hw _ _ h0
  simp only [insBlk] at h0
  by_cases hx : (h.toNat : Int) / 64 % 32 = 0
  · cases hi : isN 5 h.toNat with
    | true =>
      have hcn := hi
      simp only [isN, Bool.and_eq_true, beq_iff_eq] at hcn
      have h1 := can_eq (candN 5 h.toNat)
      have h2 := put_eq (candN 5 h.toNat) hcn.1
      rw [hcn.2, BitVec.ofNat_toNat, BitVec.setWidth_eq] at h2
      rw [hcn.1] at h1
      rw [cn5] at h1 h2 ⊢
      simp [InsAV, hx] at h1 h2
      refine ⟨?H2, ?a2, ?b2, ?c2⟩
      case a2 =>
        simp -implicitDefEqProofs +contextual (disch := omega) [takeL, thumb_Take.l0, hs, aloop_unroll, thumb_Take.l1, field_d, field_c, field_n, field_m, field_i, field_0, h0, bits_0_3, bits_0_8, bits_0_11, bits_3_3, bits_6_3, bits_6_4, bits_6_5, bits_8_3, bits_8_4, h1, h2, insBlk, hx]
        rfl
      case b2 => (repeat' (first | assumption | with_reducible apply AHeap.WF.push | with_reducible apply AHeap.WF.set)) <;> simp <;> omega
      case c2 => simp (disch := omega) [insBlk, hx]
    | false =>
      have h1 := can_eq (candN 5 h.toNat)
      by_cases hcn : (candN 5 h.toNat).can = true
      · have h2 := put_eq (candN 5 h.toNat) hcn
        have hne : BitVec.ofNat 16 (putN (candN 5 h.toNat)) ≠ h := put_ne 5 h hcn hi
        generalize BitVec.ofNat 16 (putN (candN 5 h.toNat)) = y at h2 hne
        rw [hcn] at h1
        rw [cn5] at h1 h2
        simp [InsAV, hx] at h1 h2
        refine ⟨?H3, ?a3, ?b3, ?c3⟩
        case a3 =>
          simp -implicitDefEqProofs +contextual (disch := omega) [takeL, thumb_Take.l0, hs, aloop_unroll, thumb_Take.l1, field_d, field_c, field_n, field_m, field_i, field_0, h0, bits_0_3, bits_0_8, bits_0_11, bits_3_3, bits_6_3, bits_6_4, bits_6_5, bits_8_3, bits_8_4, h1, h2, hne, insBlk, hx]
          rfl
        case b3 => (repeat' (first | assumption | with_reducible apply AHeap.WF.push | with_reducible apply AHeap.WF.set)) <;> simp <;> omega
        case c3 => simp (disch := omega) [insBlk, hx, h0]
      · rw [Bool.not_eq_true] at hcn
        rw [hcn] at h1
        rw [cn5] at h1
        simp [InsAV, hx] at h1
        refine ⟨?H4, ?a4, ?b4, ?c4⟩
        case a4 =>
          simp -implicitDefEqProofs +contextual (disch := omega) [takeL, thumb_Take.l0, hs, aloop_unroll, thumb_Take.l1, field_d, field_c, field_n, field_m, field_i, field_0, h0, bits_0_3, bits_0_8, bits_0_11, bits_3_3, bits_6_3, bits_6_4, bits_6_5, bits_8_3, bits_8_4, h1, insBlk, hx]
          rfl
        case b4 => (repeat' (first | assumption | with_reducible apply AHeap.WF.push | with_reducible apply AHeap.WF.set)) <;> simp <;> omega
        case c4 => simp (disch := omega) [insBlk, hx, h0]
  · cases hi : isN 5 h.toNat with
    | true =>
      have hcn := hi
      simp only [isN, Bool.and_eq_true, beq_iff_eq] at hcn
      have h1 := can_eq (candN 5 h.toNat)
      have h2 := put_eq (candN 5 h.toNat) hcn.1
      rw [hcn.2, BitVec.ofNat_toNat, BitVec.setWidth_eq] at h2
      rw [hcn.1] at h1
      rw [cn5] at h1 h2 ⊢
      simp [InsAV, hx] at h1 h2
      refine ⟨?H6, ?a6, ?b6, ?c6⟩
      case a6 =>
        simp -implicitDefEqProofs +contextual (disch := omega) [takeL, thumb_Take.l0, hs, aloop_unroll, thumb_Take.l1, field_d, field_c, field_n, field_m, field_i, field_0, h0, bits_0_3, bits_0_8, bits_0_11, bits_3_3, bits_6_3, bits_6_4, bits_6_5, bits_8_3, bits_8_4, h1, h2, insBlk, hx]
        rfl
      case b6 => (repeat' (first | assumption | with_reducible apply AHeap.WF.push | with_reducible apply AHeap.WF.set)) <;> simp <;> omega
      case c6 => simp (disch := omega) [insBlk, hx]
    | false =>
      have h1 := can_eq (candN 5 h.toNat)
      by_cases hcn : (candN 5 h.toNat).can = true
      · have h2 := put_eq (candN 5 h.toNat) hcn
        have hne : BitVec.ofNat 16 (putN (candN 5 h.toNat)) ≠ h := put_ne 5 h hcn hi
        generalize BitVec.ofNat 16 (putN (candN 5 h.toNat)) = y at h2 hne
        rw [hcn] at h1
        rw [cn5] at h1 h2
        simp [InsAV, hx] at h1 h2
        refine ⟨?H7, ?a7, ?b7, ?c7⟩
        case a7 =>
          simp -implicitDefEqProofs +contextual (disch := omega) [takeL, thumb_Take.l0, hs, aloop_unroll, thumb_Take.l1, field_d, field_c, field_n, field_m, field_i, field_0, h0, bits_0_3, bits_0_8, bits_0_11, bits_3_3, bits_6_3, bits_6_4, bits_6_5, bits_8_3, bits_8_4, h1, h2, hne, insBlk, hx]
          rfl
        case b7 => (repeat' (first | assumption | with_reducible apply AHeap.WF.push | with_reducible apply AHeap.WF.set)) <;> simp <;> omega
        case c7 => simp (disch := omega) [insBlk, hx, h0]
      · rw [Bool.not_eq_true] at hcn
        rw [hcn] at h1
        rw [cn5] at h1
        simp [InsAV, hx] at h1
        refine ⟨?H8, ?a8, ?b8, ?c8⟩
        case a8 =>
          simp -implicitDefEqProofs +contextual (disch := omega) [takeL, thumb_Take.l0, hs, aloop_unroll, thumb_Take.l1, field_d, field_c, field_n, field_m, field_i, field_0, h0, bits_0_3, bits_0_8, bits_0_11, bits_3_3, bits_6_3, bits_6_4, bits_6_5, bits_8_3, bits_8_4, h1, insBlk, hx]
          rfl
        case b8 => (repeat' (first | assumption | with_reducible apply AHeap.WF.push | with_reducible apply AHeap.WF.set)) <;> simp <;> omega
        case c8 => simp (disch := omega) [insBlk, hx, h0]
set_option maxHeartbeats 2000000 in
theorem take6 (h : BitVec 16) (H : AHeap) (hw : H.WF) (i0 : InsM) (h0 : H.get 0 = some (insBlk i0)) : ∃ H' : AHeap,
    takeL (AFr.al [(0, W16 h), (2, .ptr 0 5 0 0), (10, .int .i64 6)]) H = (if isN 6 h.toNat = true then some (.ret, AFr.al [(2, .ptr 0 5 0 0), (3, .int .i64 0)], H') else some (.normal, AFr.al [(0, W16 h), (2, .ptr 0 5 0 0), (10, .int .i64 7)], H')) ∧
    H'.WF ∧ H'.get 0 = some (insBlk (if isN 6 h.toNat = true then candN 6 h.toNat else i0)) := by
  have hs := shapes6
  simp [shpAV, shp, partAV, ofc] at hs
  have hz := hw _ _ h0
  simp only [insBlk] at h0
  by_cases hx : (h.toNat : Int) / 64 % 32 = 0
  · cases hi : isN 6 h.toNat with
    | true =>
      have hcn := hi
      simp only [isN, Bool.and_eq_true, beq_iff_eq] at hcn
      have h1 := can_eq (candN 6 h.toNat)
      have h2 := put_eq (candN 6 h.toNat) hcn.1
      rw [hcn.2, BitVec.ofNat_toNat, BitVec.setWidth_eq] at h2
      rw [hcn.1] at h1
      rw [cn6] at h1 h2 ⊢
      simp [InsAV, hx] at h1 h2
      refine ⟨?H10, ?a10, ?b10, ?c10⟩
      case a10 =>
        simp -implicitDefEqProofs +contextual (disch := omega) [takeL, thumb_Take.l0, hs, aloop_unroll, thumb_Take.l1, field_d, field_c, field_n, field_m, field_i, field_0, h0, bits_0_3, bits_0_8, bits_0_11, bits_3_3, bits_6_3, bits_6_4, bits_6_5, bits_8_3, bits_8_4, h1, h2, insBlk, hx]
        rfl
      case b10 => (repeat' (first | assumption | with_reducible apply AHeap.WF.push | with_reducible apply AHeap.WF.set)) <;> simp <;> omega
      case c10 => simp (disch := omega) [insBlk, hx]
    | false =>
      have h1 := can_eq (candN 6 h.toNat)
      by_cases hcn : (candN 6 h.toNat).can = true
      · have h2 := put_eq (candN 6 h.toNat) hcn
        have hne : BitVec.ofNat 16 (putN (candN 6 h.toNat)) ≠ h := put_ne 6 h hcn hi
        generalize BitVec.ofNat 16 (putN (candN 6 h.toNat)) = y at h2 hne
        rw [hcn] at h1
        rw [cn6] at h1 h2
        simp [InsAV, hx] at h1 h2
        refine ⟨?H11, ?a11, ?b11, ?c11⟩
        case a11 =>
          simp -implicitDefEqProofs +contextual (disch := omega) [takeL, thumb_Take.l0, hs, aloop_unroll, thumb_Take.l1, field_d, field_c, field_n, field_m, field_i, field_0, h0, bits_0_3, bits_0_8, bits_0_11, bits_3_3, bits_6_3, bits_6_4, bits_6_5, bits_8_3, bits_8_4, h1, h2, hne, insBlk, hx]
          rfl
        case b11 => (repeat' (first | assumption | with_reducible apply AHeap.WF.push | with_reducible apply AHeap.WF.set)) <;> simp <;> omega
        case c11 => simp (disch := omega) [insBlk, hx, h0]
      · rw [Bool.not_eq_true] at hcn
        rw [hcn] at h1
        rw [cn6] at h1
        simp [InsAV, hx] at h1
        refine ⟨?H12, ?a12, ?b12, ?c12⟩
        case a12 =>
          simp -implicitDefEqProofs +contextual (disch := omega) [takeL, thumb_Take.l0, hs, aloop_unroll, thumb_Take.l1, field_d, field_c, field_n, field_m, field_i, field_0, h0, bits_0_3, bits_0_8, bits_0_11, bits_3_3, bits_6_3, bits_6_4, bits_6_5, bits_8_3, bits_8_4, h1, insBlk, hx]
          rfl
        case b12 => (repeat' (first | assumption | with_reducible apply AHeap.WF.push | with_reducible apply AHeap.WF.set)) <;> simp <;> omega
        case c12 => simp (disch := omega) [insBlk, hx, h0]
  · cases hi : isN 6 h.toNat with
    | true =>
      have hcn := hi
      simp only [isN, Bool.and_eq_true, beq_iff_eq] at hcn
      have h1 := can_eq (candN 6 h.toNat)
      have h2 := put_eq (candN 6 h.toNat) hcn.1
      rw [hcn.2, BitVec.ofNat_toNat, BitVec.setWidth_eq] at h2
      rw [hcn.1] at h1
      rw [cn6] at h1 h2 ⊢
      simp [InsAV, hx] at h1 h2
      refine ⟨?H14, ?a14, ?b14, ?c14⟩
      case a14 =>
        simp -implicitDefEqProofs +contextual (disch := omega) [takeL, thumb_Take.l0, hs, aloop_unroll, thumb_Take.l1, field_d, field_c, field_n, field_m, field_i, field_0, h0, bits_0_3, bits_0_8, bits_0_11, bits_3_3, bits_6_3, bits_6_4, bits_6_5, bits_8_3, bits_8_4, h1, h2, insBlk, hx]
        rfl
      case b14 => (repeat' (first | assumption | with_reducible apply AHeap.WF.push | with_reducible apply AHeap.WF.set)) <;> simp <;> omega
      case c14 => simp (disch := omega) [insBlk, hx]
    | false =>
      have h1 := can_eq (candN 6 h.toNat)
      by_cases hcn : (candN 6 h.toNat).can = true
      · have h2 := put_eq (candN 6 h.toNat) hcn
        have hne : BitVec.ofNat 16 (putN (candN 6 h.toNat)) ≠ h := put_ne 6 h hcn hi
        generalize BitVec.ofNat 16 (putN (candN 6 h.toNat)) = y at h2 hne
        rw [hcn] at h1
        rw [cn6] at h1 h2
        simp [InsAV, hx] at h1 h2
        refine ⟨?H15, ?a15, ?b15, ?c15⟩
        case a15 =>
          simp -implicitDefEqProofs +contextual (disch := omega) [takeL, thumb_Take.l0, hs, aloop_unroll, thumb_Take.l1, field_d, field_c, field_n, field_m, field_i, field_0, h0, bits_0_3, bits_0_8, bits_0_11, bits_3_3, bits_6_3, bits_6_4, bits_6_5, bits_8_3, bits_8_4, h1, h2, hne, insBlk, hx]
          rfl
        case b15 => (repeat' (first | assumption | with_reducible apply AHeap.WF.push | with_reducible apply AHeap.WF.set)) <;> simp <;> omega
        case c15 => simp (disch := omega) [insBlk, hx, h0]
      · rw [Bool.not_eq_true] at hcn
        rw [hcn] at h1
        rw [cn6] at h1
        simp [InsAV, hx] at h1
        refine ⟨?H16, ?a16, ?b16, ?c16⟩
        case a16 =>
          simp -implicitDefEqProofs +contextual (disch := omega) [takeL, thumb_Take.l0, hs, aloop_unroll, thumb_Take.l1, field_d, field_c, field_n, field_m, field_i, field_0, h0, bits_0_3, bits_0_8, bits_0_11, bits_3_3, bits_6_3, bits_6_4, bits_6_5, bits_8_3, bits_8_4, h1, insBlk, hx]
          rfl
        case b16 => (repeat' (first | assumption | with_reducible apply AHeap.WF.push | with_reducible apply AHeap.WF.set)) <;> simp <;> omega
        case c16 => simp (disch := omega) [insBlk, hx, h0]
set_option maxHeartbeats 2000000 in
theorem take17 (h : BitVec 16) (H : AHeap) (hw : H.WF) (i0 : InsM) (h0 : H.get 0 = some (insBlk i0)) : ∃ H' : AHeap,
    takeL (AFr.al [(0, W16 h), (2, .ptr 0 5 0 0), (10, .int .i64 17)]) H = (if isN 17 h.toNat = true then some (.ret, AFr.al [(2, .ptr 0 5 0 0), (3, .int .i64 0)], H') else some (.normal, AFr.al [(0, W16 h), (2, .ptr 0 5 0 0), (10, .int .i64 18)], H')) ∧
    H'.WF ∧ H'.get 0 = some (insBlk (if isN 17 h.toNat = true then candN 17 h.toNat else i0)) := by
  have hs := shapes17
  simp [shpAV, shp, partAV, ofc] at hs
  have hz := hw _ _ h0
  simp only [insBlk] at h0
  by_cases hx : (1023 : Int) < (h.toNat : Int) % 2048
  · cases hi : isN 17 h.toNat with
    | true =>
      have hcn := hi
      simp only [isN, Bool.and_eq_true, beq_iff_eq] at hcn
      have h1 := can_eq (candN 17 h.toNat)
      have h2 := put_eq (candN 17 h.toNat) hcn.1
      rw [hcn.2, BitVec.ofNat_toNat, BitVec.setWidth_eq] at h2
      rw [hcn.1] at h1
      rw [cn17] at h1 h2 ⊢
      simp [InsAV, hx] at h1 h2
      refine ⟨?H18, ?a18, ?b18, ?c18⟩
      case a18 =>
        simp -implicitDefEqProofs +contextual (disch := omega) [takeL, thumb_Take.l0, hs, aloop_unroll, thumb_Take.l1, field_d, field_c, field_n, field_m, field_i, field_0, h0, bits_0_3, bits_0_8, bits_0_11, bits_3_3, bits_6_3, bits_6_4, bits_6_5, bits_8_3, bits_8_4, h1, h2, insBlk, hx]
        rfl
      case b18 => (repeat' (first | assumption | with_reducible apply AHeap.WF.push | with_reducible apply AHeap.WF.set)) <;> simp <;> omega
      case c18 => simp (disch := omega) [insBlk, hx]
    | false =>
      have h1 := can_eq (candN 17 h.toNat)
      by_cases hcn : (candN 17 h.toNat).can = true
      · have h2 := put_eq (candN 17 h.toNat) hcn
        have hne : BitVec.ofNat 16 (putN (candN 17 h.toNat)) ≠ h := put_ne 17 h hcn hi
        generalize BitVec.ofNat 16 (putN (candN 17 h.toNat)) = y at h2 hne
        rw [hcn] at h1
        rw [cn17] at h1 h2
        simp [InsAV, hx] at h1 h2
        refine ⟨?H19, ?a19, ?b19, ?c19⟩
        case a19 =>
          simp -implicitDefEqProofs +contextual (disch := omega) [takeL, thumb_Take.l0, hs, aloop_unroll, thumb_Take.l1, field_d, field_c, field_n, field_m, field_i, field_0, h0, bits_0_3, bits_0_8, bits_0_11, bits_3_3, bits_6_3, bits_6_4, bits_6_5, bits_8_3, bits_8_4, h1, h2, hne, insBlk, hx]
          rfl
        case b19 => (repeat' (first | assumption | with_reducible apply AHeap.WF.push | with_reducible apply AHeap.WF.set)) <;> simp <;> omega
        case c19 => simp (disch := omega) [insBlk, hx, h0]
      · rw [Bool.not_eq_true] at hcn
        rw [hcn] at h1
        rw [cn17] at h1
        simp [InsAV, hx] at h1
        refine ⟨?H20, ?a20, ?b20, ?c20⟩
        case a20 =>
          simp -implicitDefEqProofs +contextual (disch := omega) [takeL, thumb_Take.l0, hs, aloop_unroll, thumb_Take.l1, field_d, field_c, field_n, field_m, field_i, field_0, h0, bits_0_3, bits_0_8, bits_0_11, bits_3_3, bits_6_3, bits_6_4, bits_6_5, bits_8_3, bits_8_4, h1, insBlk, hx]
          rfl
        case b20 => (repeat' (first | assumption | with_reducible apply AHeap.WF.push | with_reducible apply AHeap.WF.set)) <;> simp <;> omega
        case c20 => simp (disch := omega) [insBlk, hx, h0]
  · cases hi : isN 17 h.toNat with
    | true =>
      have hcn := hi
      simp only [isN, Bool.and_eq_true, beq_iff_eq] at hcn
      have h1 := can_eq (candN 17 h.toNat)
      have h2 := put_eq (candN 17 h.toNat) hcn.1
      rw [hcn.2, BitVec.ofNat_toNat, BitVec.setWidth_eq] at h2
      rw [hcn.1] at h1
      rw [cn17] at h1 h2 ⊢
      simp [InsAV, hx] at h1 h2
      refine ⟨?H22, ?a22, ?b22, ?c22⟩
      case a22 =>
        simp -implicitDefEqProofs +contextual (disch := omega) [takeL, thumb_Take.l0, hs, aloop_unroll, thumb_Take.l1, field_d, field_c, field_n, field_m, field_i, field_0, h0, bits_0_3, bits_0_8, bits_0_11, bits_3_3, bits_6_3, bits_6_4, bits_6_5, bits_8_3, bits_8_4, h1, h2, insBlk, hx]
        rfl
      case b22 => (repeat' (first | assumption | with_reducible apply AHeap.WF.push | with_reducible apply AHeap.WF.set)) <;> simp <;> omega
      case c22 => simp (disch := omega) [insBlk, hx]
    | false =>
      have h1 := can_eq (candN 17 h.toNat)
      by_cases hcn : (candN 17 h.toNat).can = true
      · have h2 := put_eq (candN 17 h.toNat) hcn
        have hne : BitVec.ofNat 16 (putN (candN 17 h.toNat)) ≠ h := put_ne 17 h hcn hi
        generalize BitVec.ofNat 16 (putN (candN 17 h.toNat)) = y at h2 hne
        rw [hcn] at h1
        rw [cn17] at h1 h2
        simp [InsAV, hx] at h1 h2
        refine ⟨?H23, ?a23, ?b23, ?c23⟩
        case a23 =>
          simp -implicitDefEqProofs +contextual (disch := omega) [takeL, thumb_Take.l0, hs, aloop_unroll, thumb_Take.l1, field_d, field_c, field_n, field_m, field_i, field_0, h0, bits_0_3, bits_0_8, bits_0_11, bits_3_3, bits_6_3, bits_6_4, bits_6_5, bits_8_3, bits_8_4, h1, h2, hne, insBlk, hx]
          rfl
        case b23 => (repeat' (first | assumption | with_reducible apply AHeap.WF.push | with_reducible apply AHeap.WF.set)) <;> simp <;> omega
        case c23 => simp (disch := omega) [insBlk, hx, h0]
      · rw [Bool.not_eq_true] at hcn
        rw [hcn] at h1
        rw [cn17] at h1
        simp [InsAV, hx] at h1
        refine ⟨?H24, ?a24, ?b24, ?c24⟩
        case a24 =>
          simp -implicitDefEqProofs +contextual (disch := omega) [takeL, thumb_Take.l0, hs, aloop_unroll, thumb_Take.l1, field_d, field_c, field_n, field_m, field_i, field_0, h0, bits_0_3, bits_0_8, bits_0_11, bits_3_3, bits_6_3, bits_6_4, bits_6_5, bits_8_3, bits_8_4, h1, insBlk, hx]
          rfl
        case b24 => (repeat' (first | assumption | with_reducible apply AHeap.WF.push | with_reducible apply AHeap.WF.set)) <;> simp <;> omega
        case c24 => simp (disch := omega) [insBlk, hx, h0]
set_option maxHeartbeats 2000000 in
theorem take18 (h : BitVec 16) (H : AHeap) (hw : H.WF) (i0 : InsM) (h0 : H.get 0 = some (insBlk i0)) : ∃ H' : AHeap,
    takeL (AFr.al [(0, W16 h), (2, .ptr 0 5 0 0), (10, .int .i64 18)]) H = (if isN 18 h.toNat = true then some (.ret, AFr.al [(2, .ptr 0 5 0 0), (3, .int .i64 0)], H') else some (.normal, AFr.al [(0, W16 h), (2, .ptr 0 5 0 0), (10, .int .i64 19)], H')) ∧
    H'.WF ∧ H'.get 0 = some (insBlk (if isN 18 h.toNat = true then candN 18 h.toNat else i0)) := by
  have hs := shapes18
  simp [shpAV, shp, partAV, ofc] at hs
  have hz := hw _ _ h0
  simp only [insBlk] at h0
  by_cases hx : (127 : Int) < (h.toNat : Int) % 256
  · cases hi : isN 18 h.toNat with
    | true =>
      have hcn := hi
      simp only [isN, Bool.and_eq_true, beq_iff_eq] at hcn
      have h1 := can_eq (candN 18 h.toNat)
      have h2 := put_eq (candN 18 h.toNat) hcn.1
      rw [hcn.2, BitVec.ofNat_toNat, BitVec.setWidth_eq] at h2
      rw [hcn.1] at h1
      rw [cn18] at h1 h2 ⊢
      simp [InsAV, hx] at h1 h2
      refine ⟨?H26, ?a26, ?b26, ?c26⟩
      case a26 =>
        simp -implicitDefEqProofs +contextual (disch := omega) [takeL, thumb_Take.l0, hs, aloop_unroll, thumb_Take.l1, field_d, field_c, field_n, field_m, field_i, field_0, h0, bits_0_3, bits_0_8, bits_0_11, bits_3_3, bits_6_3, bits_6_4, bits_6_5, bits_8_3, bits_8_4, h1, h2, insBlk, hx]
        rfl
      case b26 => (repeat' (first | assumption | with_reducible apply AHeap.WF.push | with_reducible apply AHeap.WF.set)) <;> simp <;> omega
      case c26 => simp (disch := omega) [insBlk, hx]
    | false =>
      have h1 := can_eq (candN 18 h.toNat)
      by_cases hcn : (candN 18 h.toNat).can = true
      · have h2 := put_eq (candN 18 h.toNat) hcn
        have hne : BitVec.ofNat 16 (putN (candN 18 h.toNat)) ≠ h := put_ne 18 h hcn hi
        generalize BitVec.ofNat 16 (putN (candN 18 h.toNat)) = y at h2 hne
        rw [hcn] at h1
        rw [cn18] at h1 h2
        simp [InsAV, hx] at h1 h2
        refine ⟨?H27, ?a27, ?b27, ?c27⟩
        case a27 =>
          simp -implicitDefEqProofs +contextual (disch := omega) [takeL, thumb_Take.l0, hs, aloop_unroll, thumb_Take.l1, field_d, field_c, field_n, field_m, field_i, field_0, h0, bits_0_3, bits_0_8, bits_0_11, bits_3_3, bits_6_3, bits_6_4, bits_6_5, bits_8_3, bits_8_4, h1, h2, hne, insBlk, hx]
          rfl
        case b27 => (repeat' (first | assumption | with_reducible apply AHeap.WF.push | with_reducible apply AHeap.WF.set)) <;> simp <;> omega
        case c27 => simp (disch := omega) [insBlk, hx, h0]
      · rw [Bool.not_eq_true] at hcn
        rw [hcn] at h1
        rw [cn18] at h1
        simp [InsAV, hx] at h1
        refine ⟨?H28, ?a28, ?b28, ?c28⟩
        case a28 =>
          simp -implicitDefEqProofs +contextual (disch := omega) [takeL, thumb_Take.l0, hs, aloop_unroll, thumb_Take.l1, field_d, field_c, field_n, field_m, field_i, field_0, h0, bits_0_3, bits_0_8, bits_0_11, bits_3_3, bits_6_3, bits_6_4, bits_6_5, bits_8_3, bits_8_4, h1, insBlk, hx]
          rfl
        case b28 => (repeat' (first | assumption | with_reducible apply AHeap.WF.push | with_reducible apply AHeap.WF.set)) <;> simp <;> omega
        case c28 => simp (disch := omega) [insBlk, hx, h0]
  · cases hi : isN 18 h.toNat with
    | true =>
      have hcn := hi
      simp only [isN, Bool.and_eq_true, beq_iff_eq] at hcn
      have h1 := can_eq (candN 18 h.toNat)
      have h2 := put_eq (candN 18 h.toNat) hcn.1
      rw [hcn.2, BitVec.ofNat_toNat, BitVec.setWidth_eq] at h2
      rw [hcn.1] at h1
      rw [cn18] at h1 h2 ⊢
      simp [InsAV, hx] at h1 h2
      refine ⟨?H30, ?a30, ?b30, ?c30⟩
      case a30 =>
        simp -implicitDefEqProofs +contextual (disch := omega) [takeL, thumb_Take.l0, hs, aloop_unroll, thumb_Take.l1, field_d, field_c, field_n, field_m, field_i, field_0, h0, bits_0_3, bits_0_8, bits_0_11, bits_3_3, bits_6_3, bits_6_4, bits_6_5, bits_8_3, bits_8_4, h1, h2, insBlk, hx]
        rfl
      case b30 => (repeat' (first | assumption | with_reducible apply AHeap.WF.push | with_reducible apply AHeap.WF.set)) <;> simp <;> omega
      case c30 => simp (disch := omega) [insBlk, hx]
    | false =>
      have h1 := can_eq (candN 18 h.toNat)
      by_cases hcn : (candN 18 h.toNat).can = true
      · have h2 := put_eq (candN 18 h.toNat) hcn
        have hne : BitVec.ofNat 16 (putN (candN 18 h.toNat)) ≠ h := put_ne 18 h hcn hi
        generalize BitVec.ofNat 16 (putN (candN 18 h.toNat)) = y at h2 hne
        rw [hcn] at h1
        rw [cn18] at h1 h2
        simp [InsAV, hx] at h1 h2
        refine ⟨?H31, ?a31, ?b31, ?c31⟩
        case a31 =>
          simp -implicitDefEqProofs +contextual (disch := omega) [takeL, thumb_Take.l0, hs, aloop_unroll, thumb_Take.l1, field_d, field_c, field_n, field_m, field_i, field_0, h0, bits_0_3, bits_0_8, bits_0_11, bits_3_3, bits_6_3, bits_6_4, bits_6_5, bits_8_3, bits_8_4, h1, h2, hne, insBlk, hx]
          rfl
        case b31 => (repeat' (first | assumption | with_reducible apply AHeap.WF.push | with_reducible apply AHeap.WF.set)) <;> simp <;> omega
        case c31 => simp (disch := omega) [insBlk, hx, h0]
      · rw [Bool.not_eq_true] at hcn
        rw [hcn] at h1
        rw [cn18] at h1
        simp [InsAV, hx] at h1
        refine ⟨?H32, ?a32, ?b32, ?c32⟩
        case a32 =>
          simp -implicitDefEqProofs +contextual (disch := omega) [takeL, thumb_Take.l0, hs, aloop_unroll, thumb_Take.l1, field_d, field_c, field_n, field_m, field_i, field_0, h0, bits_0_3, bits_0_8, bits_0_11, bits_3_3, bits_6_3, bits_6_4, bits_6_5, bits_8_3, bits_8_4, h1, insBlk, hx]
          rfl
        case b32 => (repeat' (first | assumption | with_reducible apply AHeap.WF.push | with_reducible apply AHeap.WF.set)) <;> simp <;> omega
        case c32 => simp (disch := omega) [insBlk, hx, h0]
end Go.Abs
