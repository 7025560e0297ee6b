/-
  Instructions and their halfwords: the document's Can and Put.
-/
import Derived.Test.YtncablokgkejjaaT4
set_option linter.unusedSimpArgs false
set_option linter.unusedVariables false
namespace Go.Abs
open Th
theorem rCan_eq (i : InsM) : ref02_Can.spec [InsAV i] = some (.bool i.can) := by
  obtain ⟨op, d, n, m, imm⟩ := i
  by_cases h : 0 ≤ op ∧ op ≤ 20
  · obtain ⟨k, rfl⟩ : ∃ k : Nat, op = k := ⟨op.toNat, by omega⟩
    exact cases21 (P := fun k => ref02_Can.spec [InsAV ⟨k, d, n, m, imm⟩] = some (.bool (InsM.mk k d n m imm).can)) k (by omega) (Can0 d n m imm) (Can1 d n m imm) (Can2 d n m imm) (Can3 d n m imm) (Can4 d n m imm) (Can5 d n m imm) (Can6 d n m imm) (Can7 d n m imm) (Can8 d n m imm) (Can9 d n m imm) (Can10 d n m imm)
      (Can11 d n m imm) (Can12 d n m imm) (Can13 d n m imm) (Can14 d n m imm) (Can15 d n m imm) (Can16 d n m imm) (Can17 d n m imm) (Can18 d n m imm) (Can19 d n m imm) (Can20 d n m imm)
  · have hc : (InsM.mk op d n m imm).can = false := by
      rw [Bool.eq_false_iff, Ne, can_iff]; exact fun q => h q.1
    have h' : op < 0 ∨ 20 < op := by omega
    rw [hc]
    simp -implicitDefEqProofs +contextual (disch := omega) [ref02_Can.spec, ref02_Can, InsAV, h']
theorem Shape_eq (op : Nat) (h : op ≤ 20) : ref02_Shape.spec [.int .i64 (op : Nat)] = some (.str (txtB op)) :=
  cases21 (P := fun op => ref02_Shape.spec [.int .i64 (op : Nat)] = some (.str (txtB op))) op h Shape0 Shape1 Shape2 Shape3 Shape4 Shape5 Shape6 Shape7 Shape8 Shape9 Shape10 Shape11 Shape12 Shape13 Shape14 Shape15 Shape16 Shape17 Shape18 Shape19 Shape20
theorem Low_eq (op : Nat) (h : op ≤ 20) : ref02_Low.spec [.int .i64 (op : Nat)] = some (.int .i64 (shp op).low) :=
  cases21 (P := fun op => ref02_Low.spec [.int .i64 (op : Nat)] = some (.int .i64 (shp op).low)) op h Low0 Low1 Low2 Low3 Low4 Low5 Low6 Low7 Low8 Low9 Low10 Low11 Low12 Low13 Low14 Low15 Low16 Low17 Low18 Low19 Low20
theorem High_eq (op : Nat) (h : op ≤ 20) : ref02_High.spec [.int .i64 (op : Nat)] = some (.int .i64 (shp op).high) :=
  cases21 (P := fun op => ref02_High.spec [.int .i64 (op : Nat)] = some (.int .i64 (shp op).high)) op h High0 High1 High2 High3 High4 High5 High6 High7 High8 High9 High10 High11 High12 High13 High14 High15 High16 High17 High18 High19 High20
theorem txt_len (op : Nat) (h : op ≤ 20) : (txt op).length = 16 := by
  have : ∀ op : Nat, op ≤ 20 → (txt op).length = 16 := by decide
  exact this op h
noncomputable abbrev rputL1 := ref02_Put.l1 ref02_Can.spec ref02_Shape.spec
noncomputable abbrev rputL := ref02_Put.l0 ref02_Can.spec ref02_Shape.spec
theorem rput_dbl (a4 a5 a6 a7 a8 a9 a10 : AV) (H : AHeap) : ∀ (d j : Nat) (b : Nat), j + d = 15 → b * 2 ^ d ≤ 32768 →
    aloop rputL1 (AFr.al [(4, a4), (5, a5), (6, a6), (7, a7), (8, a8), (9, a9), (10, a10), (11, .int .i64 b), (12, .int .i64 j)]) H =
      some (.exit 3, AFr.al [(4, a4), (5, a5), (6, a6), (7, a7), (8, a8), (9, a9), (10, a10), (11, .int .i64 (b * 2 ^ d : Nat)), (12, .int .i64 15), (67, .bool false)], H)
  | 0, j, b, h, hb => by
    rw [aloop_unroll]
    simp -implicitDefEqProofs +contextual (disch := omega) [rputL1, ref02_Put.l1, show j = 15 from by omega]
  | d + 1, j, b, h, hb => by
    have h2 : b * 2 * 2 ^ d = b * 2 ^ (d + 1) := by rw [Nat.pow_succ, Nat.mul_assoc, Nat.mul_comm 2]
    have ih := rput_dbl a4 a5 a6 a7 a8 a9 a10 H d (j + 1) (b * 2) (by omega) (by omega)
    have hle : b * 2 ≤ 32768 := by have := Nat.two_pow_pos d; have := Nat.le_mul_of_pos_right (b * 2) this; omega
    rw [h2, Int.natCast_succ, Int.natCast_mul] at ih
    rw [aloop_unroll]
    simp -implicitDefEqProofs +contextual (disch := omega) [rputL1, ref02_Put.l1]
    exact ih
theorem rput_step (s : ByteArray) (l : List Nat) (hs : Chars s l) (hl : l.length = 16) (H : AHeap) (k : Nat) (hk : k < 16) (st : PutS) (w : Nat) (hw : 2 ^ (15 - k) = w) (hh : st.h < w) (hd : st.d ≤ 1000000000000) (hn : st.n ≤ 1000000000000) (hm : st.m ≤ 1000000000000) (hi : st.imm ≤ 1000000000000) :
    rputL (AFr.al [(4, .str s), (5, .int .i64 st.h), (6, .int .i64 st.d), (7, .int .i64 st.n), (8, .int .i64 st.m), (9, .int .i64 st.imm), (10, .int .i64 (k : Int))]) H =
      some (.normal, AFr.al [(4, .str s), (5, .int .i64 (putBit l[k] w st).h), (6, .int .i64 (putBit l[k] w st).d), (7, .int .i64 (putBit l[k] w st).n), (8, .int .i64 (putBit l[k] w st).m), (9, .int .i64 (putBit l[k] w st).imm), (10, .int .i64 ((k : Int) - 1))], H) := by
  have hv := hs.2 k (by omega) (by have := hs.1; omega)
  have hsz : k < s.size := by have := hs.1; omega
  have hw2 : w ≤ 32768 := by rw [← hw]; exact Nat.le_trans (Nat.pow_le_pow_right (by decide) (show 15 - k ≤ 15 by omega)) (by decide)
  have dbl := fun a5 a6 a7 a8 a9 b (hb : b ≤ 1) => rput_dbl (.str s) a5 a6 a7 a8 a9 (.int .i64 (k : Int)) H (15 - k) k b (by omega) (by rw [hw]; have := Nat.mul_le_mul_right w hb; omega)
  rw [hw] at dbl
  have d0 := fun a5 a6 a7 a8 a9 => dbl a5 a6 a7 a8 a9 0 (by omega)
  have d1 := fun a5 a6 a7 a8 a9 => dbl a5 a6 a7 a8 a9 1 (by omega)
  have dd := fun a5 a6 a7 a8 a9 (x : Nat) => dbl a5 a6 a7 a8 a9 (x % 2) (by omega)
  simp only [Int.natCast_zero, Int.natCast_one, Nat.zero_mul, Nat.one_mul] at d0 d1
  have hx : ∀ x : Nat, x % 2 * w ≤ 32768 := fun x => by have := Nat.mul_le_mul_right w (show x % 2 ≤ 1 by omega); omega
  have hW : ∀ x : Nat, IntKind.i64.wrap ((st.h : Int) + (x : Int) % 2 * (w : Int)) = (st.h : Int) + (x : Int) % 2 * (w : Int) := fun x => by
    have h1 := hx x
    have h2 : (x : Int) % 2 * (w : Int) = ((x % 2 * w : Nat) : Int) := by push_cast; rfl
    rw [h2]; exact wrap_in _ (by omega) (by omega)
  generalize hc : l[k] = c at hv
  have ne : ∀ q : Nat, q < 256 → c ≠ q → ¬ s[k].toBitVec = BitVec.ofNat 8 q := fun q hq hn e => by
    rw [e, BitVec.toNat_ofNat, Nat.mod_eq_of_lt hq] at hv; exact hn hv.symm
  have eq : ∀ q : Nat, q < 256 → c = q → s[k].toBitVec = BitVec.ofNat 8 q := fun q hq hn => by
    apply BitVec.eq_of_toNat_eq; rw [hv, BitVec.toNat_ofNat, Nat.mod_eq_of_lt hq, hn]
  by_cases c1 : c = 49
  · have e1 := eq 49 (by omega) c1
    simp -implicitDefEqProofs +contextual (disch := omega) [rputL, ref02_Put.l0, hsz, e1, putBit, c1, d1]
  · have n1 := ne 49 (by omega) c1
    by_cases c2 : c = 100
    · have e1 := eq 100 (by omega) c2
      have := dd (.int .i64 st.h) (.int .i64 (st.d / 2 : Nat)) (.int .i64 st.n) (.int .i64 st.m) (.int .i64 st.imm) st.d
      push_cast at this
      simp -implicitDefEqProofs +contextual (disch := omega) [rputL, ref02_Put.l0, hsz, e1, putBit, c2, this, hW]
    · have n2 := ne 100 (by omega) c2
      by_cases c3 : c = 99
      · have e1 := eq 99 (by omega) c3
        have := dd (.int .i64 st.h) (.int .i64 (st.d / 2 : Nat)) (.int .i64 st.n) (.int .i64 st.m) (.int .i64 st.imm) st.d
        push_cast at this
        simp -implicitDefEqProofs +contextual (disch := omega) [rputL, ref02_Put.l0, hsz, e1, putBit, c3, this, hW]
      · have n3 := ne 99 (by omega) c3
        by_cases c4 : c = 110
        · have e1 := eq 110 (by omega) c4
          have := dd (.int .i64 st.h) (.int .i64 st.d) (.int .i64 (st.n / 2 : Nat)) (.int .i64 st.m) (.int .i64 st.imm) st.n
          push_cast at this
          simp -implicitDefEqProofs +contextual (disch := omega) [rputL, ref02_Put.l0, hsz, e1, putBit, c4, this, hW]
        · have n4 := ne 110 (by omega) c4
          by_cases c5 : c = 109
          · have e1 := eq 109 (by omega) c5
            have := dd (.int .i64 st.h) (.int .i64 st.d) (.int .i64 st.n) (.int .i64 (st.m / 2 : Nat)) (.int .i64 st.imm) st.m
            push_cast at this
            simp -implicitDefEqProofs +contextual (disch := omega) [rputL, ref02_Put.l0, hsz, e1, putBit, c5, this, hW]
          · have n5 := ne 109 (by omega) c5
            by_cases c6 : c = 105
            · have e1 := eq 105 (by omega) c6
              have := dd (.int .i64 st.h) (.int .i64 st.d) (.int .i64 st.n) (.int .i64 st.m) (.int .i64 (st.imm / 2 : Nat)) st.imm
              push_cast at this
              simp -implicitDefEqProofs +contextual (disch := omega) [rputL, ref02_Put.l0, hsz, e1, putBit, c6, this, hW]
            · have n6 := ne 105 (by omega) c6
              simp -implicitDefEqProofs +contextual (disch := omega) [rputL, ref02_Put.l0, hsz, n1, n2, n3, n4, n5, n6, putBit, c1, c2, c3, c4, c5, c6, d0]
theorem putBit_lt (c w : Nat) (st : PutS) (h : st.h < w) : (putBit c w st).h < w * 2 := by
  have hx : ∀ x : Nat, x % 2 * w ≤ w := fun x => by have := Nat.mul_le_mul_right w (show x % 2 ≤ 1 by omega); omega
  have h1 := hx st.d; have h2 := hx st.n; have h3 := hx st.m; have h4 := hx st.imm
  unfold putBit; repeat' split
  all_goals first | omega | (dsimp only; omega)
theorem putBit_le (c w : Nat) (st : PutS) (hd : st.d ≤ 1000000000000) (hn : st.n ≤ 1000000000000) (hm : st.m ≤ 1000000000000) (hi : st.imm ≤ 1000000000000) :
    (putBit c w st).d ≤ 1000000000000 ∧ (putBit c w st).n ≤ 1000000000000 ∧ (putBit c w st).m ≤ 1000000000000 ∧ (putBit c w st).imm ≤ 1000000000000 := by
  unfold putBit; repeat' split
  all_goals first | omega | (dsimp only; omega)
theorem rput_loop (s : ByteArray) (l : List Nat) (hs : Chars s l) (hl : l.length = 16) (H : AHeap) : ∀ (n : Nat), n ≤ 16 → ∀ st : PutS, st.h < 2 ^ (16 - n) → st.d ≤ 1000000000000 → st.n ≤ 1000000000000 → st.m ≤ 1000000000000 → st.imm ≤ 1000000000000 →
    ∃ st' : PutS, aloop rputL (AFr.al [(4, .str s), (5, .int .i64 st.h), (6, .int .i64 st.d), (7, .int .i64 st.n), (8, .int .i64 st.m), (9, .int .i64 st.imm), (10, .int .i64 ((n : Int) - 1))]) H =
      some (.exit 0, AFr.al [(4, .str s), (5, .int .i64 st'.h), (6, .int .i64 st'.d), (7, .int .i64 st'.n), (8, .int .i64 st'.m), (9, .int .i64 st'.imm), (10, .int .i64 (-1)), (32, .bool false)], H) ∧ st' = putTxt (l.take n).reverse (2 ^ (16 - n)) st
  | 0, _, st, hh, hd, hn, hm, hi => by
    refine ⟨st, aloop_exit (by simp) ?_, by simp [putTxt]⟩
    simp -implicitDefEqProofs +contextual (disch := omega) [rputL, ref02_Put.l0]
  | n + 1, hn16, st, hh, hd, hn, hm, hi => by
    have e1 := rput_step s l hs hl H n (by omega) st (2 ^ (15 - n)) rfl (by rwa [show 16 - (n + 1) = 15 - n from by omega] at hh) hd hn hm hi
    obtain ⟨b1, b2, b3, b4⟩ := putBit_le l[n] (2 ^ (15 - n)) st hd hn hm hi
    have b0 := putBit_lt l[n] (2 ^ (15 - n)) st (by rwa [show 16 - (n + 1) = 15 - n from by omega] at hh)
    have hp : 2 ^ (15 - n) * 2 = 2 ^ (16 - n) := by rw [← Nat.pow_succ]; congr 1; omega
    obtain ⟨st', e2, e3⟩ := rput_loop s l hs hl H n (by omega) (putBit l[n] (2 ^ (15 - n)) st) (by omega) b1 b2 b3 b4
    refine ⟨st', ?_, ?_⟩
    · rw [Int.natCast_succ, show (n : Int) + 1 - 1 = n from by omega, aloop_step e1]; exact e2
    · have : (l.take (n + 1)).reverse = l[n] :: (l.take n).reverse := by rw [List.take_succ_eq_append_getElem (by omega), List.reverse_append]; rfl
      rw [e3, this, show 16 - (n + 1) = 15 - n from by omega]
      simp only [putTxt, hp]
theorem rPut_eq (i : InsM) : ref02_Put.spec [InsAV i] = some (.tup [W16 (putM i).1, .int .i64 (putM i).2]) := by
  have hc := rCan_eq i
  unfold putM
  by_cases h : i.can = true
  · have h1 := (can_iff i).1 h
    have h2 := putR_eq i h
    obtain ⟨op, d, n, m, imm⟩ := i
    dsimp only at h1
    obtain ⟨k, rfl⟩ : ∃ k : Nat, op = k := ⟨op.toNat, by omega⟩
    rw [Int.toNat_natCast] at h1
    have hk : k ≤ 20 := by omega
    have hb : maxD k ≤ 13 ∧ maxN k ≤ 7 ∧ maxM k ≤ 7 ∧ -1024 ≤ (shp k).low ∧ (shp k).high ≤ 1023 := by
      have : ∀ k : Nat, k ≤ 20 → maxD k ≤ 13 ∧ maxN k ≤ 7 ∧ maxM k ≤ 7 ∧ -1024 ≤ (shp k).low ∧ (shp k).high ≤ 1023 := by decide
      exact this k hk
    obtain ⟨D, rfl⟩ : ∃ D : Nat, d = D := ⟨d.toNat, by omega⟩
    obtain ⟨N, rfl⟩ : ∃ N : Nat, n = N := ⟨n.toNat, by omega⟩
    obtain ⟨M, rfl⟩ : ∃ M : Nat, m = M := ⟨m.toNat, by omega⟩
    obtain ⟨Y, hY⟩ : ∃ Y : Nat, (if imm < 0 then imm + 2048 else imm) = Y := ⟨_, (Int.toNat_of_nonneg (by split <;> omega)).symm⟩
    have hs := Shape_eq k hk
    obtain ⟨st', e1, e2⟩ := rput_loop (txtB k) (txt k) (txt_chars k hk) (txt_len k hk) (AHeap.empty.push (insBlk ⟨k, D, N, M, imm⟩)) 16 (by omega) ⟨0, D, N, M, Y⟩ (by simp) (by dsimp only; omega) (by dsimp only; omega) (by dsimp only; omega) (by dsimp only; split at hY <;> omega)
    rw [List.take_of_length_le (by rw [txt_len k hk]; omega)] at e2
    have e3 : putN ⟨k, D, N, M, imm⟩ = st'.h := by
      rw [← h2, e2]
      simp only [putR, Int.toNat_natCast, hY]
    rw [e3, if_pos h]
    rw [h] at hc
    dsimp only at e1
    rw [show ((16 : Nat) : Int) - 1 = 15 from rfl, show ((0 : Nat) : Int) = 0 from rfl] at e1
    simp only [InsAV] at hc
    simp only [insBlk] at e1
    by_cases hi : imm < 0
    · rw [if_pos hi] at hY
      rw [← hY] at e1
      simp -implicitDefEqProofs +contextual (disch := omega) [ref02_Put.spec, ref02_Put, InsAV, hc, hs, hi, e1]
    · rw [if_neg hi] at hY
      rw [← hY] at e1
      simp -implicitDefEqProofs +contextual (disch := omega) [ref02_Put.spec, ref02_Put, InsAV, hc, hs, hi, e1]
  · rw [if_neg h]
    simp only [InsAV] at hc
    simp -implicitDefEqProofs +contextual (disch := omega) [ref02_Put.spec, ref02_Put, InsAV, hc, h]
end Go.Abs
