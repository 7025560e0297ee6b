/-
  Instructions and their halfwords: the document's Take.
-/
import Derived.Test.YteohnepdbjmghaaT5
set_option linter.unusedSimpArgs false
set_option linter.unusedVariables false
namespace Go.Abs
open Th
noncomputable abbrev rtakeL1 := ref02_Take.l1 ref02_Shape.spec ref02_Low.spec ref02_High.spec ref02_Can.spec
noncomputable abbrev rtakeL := ref02_Take.l0 ref02_Shape.spec ref02_Low.spec ref02_High.spec ref02_Can.spec
def tkFr (h : BitVec 16) (op : Nat) (s : ByteArray) (b : Nat) (st : TakeS) (k : Nat) : List (Nat × AV) :=
  [(0, W16 h), (2, .ptr 0 5 0 0), (4, .int .i64 op), (5, .str s), (6, .ptr b 5 0 0), (7, .bool st.ok), (8, .int .i64 st.wide), (9, .int .i64 st.x), (10, .int .i64 k)]
def tkBlk (op : Nat) (st : TakeS) : Blk := insBlk ⟨op, st.d, st.n, st.m, st.imm⟩
theorem rtake_step (h : BitVec 16) (op : Nat) (s : ByteArray) (l : List Nat) (hs : Chars s l) (hl : l.length = 16) (X : AHeap) (b : Nat) (k : Nat) (hk : k < 16) (st : TakeS) (P : Nat) (hP : P ≤ 65536) (hx : st.x < 65536) (hd : st.d < P) (hn : st.n < P) (hm : st.m < P) (hi : st.imm < P) (hw : st.wide ≤ P) :
    rtakeL1 (AFr.al (tkFr h op s b st k)) (X.set b (some (tkBlk op st))) = some (.normal, AFr.al (tkFr h op s b (takeBit l[k] st) (k + 1)), X.set b (some (tkBlk op (takeBit l[k] st)))) := by
  have hv := hs.2 k (by omega) (by have := hs.1; omega)
  have hsz : k < s.size := by have := hs.1; omega
  generalize hc : l[k] = c at hv
  have ne : ∀ q : Nat, q < 256 → c ≠ q → ¬ s[k].toBitVec = BitVec.ofNat 8 q := fun q hq hn e => by
    rw [e, BitVec.toNat_ofNat, Nat.mod_eq_of_lt hq] at hv; exact hn hv.symm
  have eq : ∀ q : Nat, q < 256 → c = q → s[k].toBitVec = BitVec.ofNat 8 q := fun q hq hn => by
    apply BitVec.eq_of_toNat_eq; rw [hv, BitVec.toNat_ofNat, Nat.mod_eq_of_lt hq, hn]
  unfold takeBit tkFr tkBlk insBlk
  obtain ⟨x, ok, wide, d, n, m, imm⟩ := st
  dsimp only at hx hd hn hm hi hw ⊢
  obtain ⟨bit, hbit⟩ : ∃ bit, x / 32768 = bit := ⟨_, rfl⟩
  obtain ⟨y, hy⟩ : ∃ y, x % 32768 = y := ⟨_, rfl⟩
  rw [hbit, hy]
  have hbc : (bit = 0 ∧ x = y ∧ x < 32768) ∨ (bit = 1 ∧ x = y + 32768 ∧ 32768 ≤ x) := by omega
  have hy2 : y < 32768 := by omega
  clear hbit hy
  rcases hbc with ⟨rfl, rfl, h3⟩ | ⟨rfl, rfl, h3⟩
  all_goals
    by_cases c1 : c = 48
    · have e1 := eq 48 (by omega) c1
      simp -implicitDefEqProofs +contextual (disch := omega) [rtakeL1, ref02_Take.l1, hsz, e1, c1]
    · have n1 := ne 48 (by omega) c1
      by_cases c2 : c = 49
      · have e1 := eq 49 (by omega) c2
        simp -implicitDefEqProofs +contextual (disch := omega) [rtakeL1, ref02_Take.l1, hsz, e1, c2]
      · have n2 := ne 49 (by omega) c2
        by_cases c3 : c = 100
        · have e1 := eq 100 (by omega) c3
          simp -implicitDefEqProofs +contextual (disch := omega) [rtakeL1, ref02_Take.l1, hsz, e1, c3]
        · have n3 := ne 100 (by omega) c3
          by_cases c4 : c = 99
          · have e1 := eq 99 (by omega) c4
            simp -implicitDefEqProofs +contextual (disch := omega) [rtakeL1, ref02_Take.l1, hsz, e1, c4]
          · have n4 := ne 99 (by omega) c4
            by_cases c5 : c = 110
            · have e1 := eq 110 (by omega) c5
              simp -implicitDefEqProofs +contextual (disch := omega) [rtakeL1, ref02_Take.l1, hsz, e1, c5]
            · have n5 := ne 110 (by omega) c5
              by_cases c6 : c = 109
              · have e1 := eq 109 (by omega) c6
                simp -implicitDefEqProofs +contextual (disch := omega) [rtakeL1, ref02_Take.l1, hsz, e1, c6]
              · have n6 := ne 109 (by omega) c6
                by_cases c7 : c = 105
                · have e1 := eq 105 (by omega) c7
                  simp -implicitDefEqProofs +contextual (disch := omega) [rtakeL1, ref02_Take.l1, hsz, e1, c7]
                · have n7 := ne 105 (by omega) c7
                  simp -implicitDefEqProofs +contextual (disch := omega) [rtakeL1, ref02_Take.l1, hsz, n1, n2, n3, n4, n5, n6, n7, c1, c2, c3, c4, c5, c6, c7]
structure TkB (st : TakeS) (P : Nat) : Prop where
  x : st.x < 65536
  d : st.d < P
  n : st.n < P
  m : st.m < P
  imm : st.imm < P
  wide : st.wide ≤ P
theorem takeBit_b (c : Nat) (st : TakeS) (P : Nat) (h : TkB st P) : TkB (takeBit c st) (P * 2) := by
  obtain ⟨h1, h2, h3, h4, h5, h6⟩ := h
  unfold takeBit; dsimp only; repeat' split
  all_goals (refine ⟨?_, ?_, ?_, ?_, ?_, ?_⟩ <;> dsimp only <;> omega)
theorem rtake_loop (h : BitVec 16) (op : Nat) (s : ByteArray) (l : List Nat) (hs : Chars s l) (hl : l.length = 16) (X : AHeap) (b : Nat) : ∀ (d k : Nat) (st : TakeS) (P : Nat), k + d = 16 → P * 2 ^ d ≤ 65536 → TkB st P →
    aloop rtakeL1 (AFr.al (tkFr h op s b st k)) (X.set b (some (tkBlk op st))) =
      some (.exit 2, AFr.al (tkFr h op s b (takeTxt (l.drop k) st) 16 ++ [(23, .bool false)]), X.set b (some (tkBlk op (takeTxt (l.drop k) st)))) ∧ TkB (takeTxt (l.drop k) st) (P * 2 ^ d)
  | 0, k, st, P, hk, hP, hb => by
    rw [List.drop_of_length_le (by omega)]
    refine ⟨aloop_exit (by simp) ?_, by simpa [takeTxt] using hb⟩
    obtain rfl : k = 16 := by omega
    unfold tkFr takeTxt
    simp -implicitDefEqProofs +contextual (disch := omega) [rtakeL1, ref02_Take.l1]
  | d + 1, k, st, P, hk, hP, hb => by
    have hP2 : P * 2 * 2 ^ d ≤ 65536 := by rw [Nat.mul_assoc, Nat.mul_comm 2, ← Nat.pow_succ]; exact hP
    have hP1 : P ≤ 65536 := by have := Nat.two_pow_pos (d + 1); have := Nat.le_mul_of_pos_right P this; omega
    have e1 := rtake_step h op s l hs hl X b k (by omega) st P hP1 hb.x hb.d hb.n hb.m hb.imm hb.wide
    have ih := rtake_loop h op s l hs hl X b d (k + 1) (takeBit l[k] st) (P * 2) (by omega) hP2 (takeBit_b _ _ _ hb)
    rw [List.drop_eq_getElem_cons (by omega), aloop_step e1]
    rw [show P * 2 ^ (d + 1) = P * 2 * 2 ^ d from by rw [Nat.mul_assoc, Nat.mul_comm 2, ← Nat.pow_succ]]
    exact ih
set_option maxHeartbeats 4000000 in
theorem rtake_out (op : Nat) (hop : op ≤ 20) (h : BitVec 16) (H : AHeap) (hw : H.WF) (i0 : InsM) (h0 : H.get 0 = some (insBlk i0)) : ∃ H' : AHeap,
    rtakeL (AFr.al [(0, W16 h), (2, .ptr 0 5 0 0), (4, .int .i64 (op : Nat))]) H = (if isR op h.toNat = true then some (.ret, AFr.al [(2, .ptr 0 5 0 0), (3, .int .i64 0)], H') else some (.normal, AFr.al [(0, W16 h), (2, .ptr 0 5 0 0), (4, .int .i64 (op + 1 : Nat))], H')) ∧
    H'.WF ∧ H'.get 0 = some (insBlk (if isR op h.toNat = true then candR op h.toNat else i0)) := by
  have hz := hw _ _ h0
  have g1 := Shape_eq op hop; have g2 := Low_eq op hop; have g3 := High_eq op hop
  obtain ⟨e1, e2⟩ := rtake_loop h op (txtB op) (txt op) (txt_chars op hop) (txt_len op hop) (H.push (insBlk ⟨0, 0, 0, 0, 0⟩)) H.next 16 0 ⟨h.toNat, true, 1, 0, 0, 0, 0⟩ 1 (by omega) (by omega) ⟨h.isLt, by simp, by simp, by simp, by simp, by simp⟩
  rw [List.drop_zero, show takeTxt (txt op) ⟨h.toNat, true, 1, 0, 0, 0, 0⟩ = takeS op h.toNat from rfl] at e1 e2
  have hbd : -1024 ≤ (shp op).low ∧ (shp op).high ≤ 1023 ∧ (shp op).low ≤ 1 := by
    have : ∀ k : Nat, k ≤ 20 → -1024 ≤ (shp k).low ∧ (shp k).high ≤ 1023 ∧ (shp k).low ≤ 1 := by decide
    exact this op hop
  have hcan := rCan_eq (candR op h.toNat)
  unfold isR candR at *
  generalize takeS op h.toNat = st at *
  dsimp only at hcan ⊢
  obtain ⟨b1, b2, b3, b4, b5, b6⟩ := e2
  simp only [Nat.reducePow, Nat.one_mul] at b2 b3 b4 b5 b6
  generalize (shp op).low = low at *
  generalize (shp op).high = high at *
  simp only [tkFr, tkBlk, insBlk, InsAV, List.cons_append, List.nil_append] at e1 hcan h0
  simp only [Int.natCast_zero, Int.natCast_one] at e1
  have hop2 : (op : Int) ≤ 20 := by omega
  have key : ∀ (v : Int) (c : Bool), v = (if low = 1 ∧ (if low < 0 ∧ (st.imm : Int) > high then (st.imm : Int) - st.wide else (st.imm : Int)) = 0 then (32 : Int) else if low < 0 ∧ (st.imm : Int) > high then (st.imm : Int) - st.wide else (st.imm : Int)) →
      ref02_Can.spec [.agg [.int .i64 op, .int .i64 st.d, .int .i64 st.n, .int .i64 st.m, .int .i64 v]] = some (.bool c) → ∃ H' : AHeap,
      rtakeL (AFr.al [(0, W16 h), (2, .ptr 0 5 0 0), (4, .int .i64 (op : Nat))]) H = (if (st.ok && c) = true then some (.ret, AFr.al [(2, .ptr 0 5 0 0), (3, .int .i64 0)], H') else some (.normal, AFr.al [(0, W16 h), (2, .ptr 0 5 0 0), (4, .int .i64 (op + 1 : Nat))], H')) ∧
      H'.WF ∧ H'.get 0 = some (insBlk (if (st.ok && c) = true then ⟨op, st.d, st.n, st.m, v⟩ else i0)) := by
    intro v c hv hcan
    by_cases l1 : low < 0
    · have l3 : ¬ low = 1 := by omega
      by_cases l2 : high < (st.imm : Int)
      · have hv' : v = (st.imm : Int) - st.wide := by rw [hv]; simp [l1, l2, l3]
        clear hv; subst hv'
        cases hok : st.ok <;> cases c
        all_goals
          refine ⟨?_, ?_, ?_, ?_⟩
          rotate_left
          · simp -implicitDefEqProofs +contextual (disch := omega) [rtakeL, ref02_Take.l0, g1, g2, g3, e1, l1, l2, l3, hcan, hok, h0, insBlk]
            rfl
          · (repeat' (first | assumption | with_reducible apply AHeap.WF.push | with_reducible apply AHeap.WF.set)) <;> simp <;> omega
          · simp (disch := omega) [insBlk, h0]
      · have hv' : v = (st.imm : Int) := by rw [hv]; simp [l1, l2, l3]
        clear hv; subst hv'
        cases hok : st.ok <;> cases c
        all_goals
          refine ⟨?_, ?_, ?_, ?_⟩
          rotate_left
          · simp -implicitDefEqProofs +contextual (disch := omega) [rtakeL, ref02_Take.l0, g1, g2, g3, e1, l1, l2, l3, hcan, hok, h0, insBlk]
            rfl
          · (repeat' (first | assumption | with_reducible apply AHeap.WF.push | with_reducible apply AHeap.WF.set)) <;> simp <;> omega
          · simp (disch := omega) [insBlk, h0]
    · by_cases l3 : low = 1
      · by_cases l2 : st.imm = 0
        · have l2i : (st.imm : Int) = 0 := by omega
          have hv' : v = 32 := by rw [hv]; simp [l1, l2, l3]
          clear hv; subst hv'
          cases hok : st.ok <;> cases c
          all_goals
            refine ⟨?_, ?_, ?_, ?_⟩
            rotate_left
            · simp -implicitDefEqProofs +contextual (disch := omega) [rtakeL, ref02_Take.l0, g1, g2, g3, e1, l1, l2, l2i, l3, hcan, hok, h0, insBlk]
              rfl
            · (repeat' (first | assumption | with_reducible apply AHeap.WF.push | with_reducible apply AHeap.WF.set)) <;> simp <;> omega
            · simp (disch := omega) [insBlk, h0]
        · have hv' : v = (st.imm : Int) := by rw [hv]; simp [l1, l2, l3]
          have l2i : ¬ (st.imm : Int) = 0 := by omega
          clear hv; subst hv'
          cases hok : st.ok <;> cases c
          all_goals
            refine ⟨?_, ?_, ?_, ?_⟩
            rotate_left
            · simp -implicitDefEqProofs +contextual (disch := omega) [rtakeL, ref02_Take.l0, g1, g2, g3, e1, l1, l2, l2i, l3, hcan, hok, h0, insBlk]
              rfl
            · (repeat' (first | assumption | with_reducible apply AHeap.WF.push | with_reducible apply AHeap.WF.set)) <;> simp <;> omega
            · simp (disch := omega) [insBlk, h0]
      · have hv' : v = (st.imm : Int) := by rw [hv]; simp [l1, l3]
        clear hv; subst hv'
        cases hok : st.ok <;> cases c
        all_goals
          refine ⟨?_, ?_, ?_, ?_⟩
          rotate_left
          · simp -implicitDefEqProofs +contextual (disch := omega) [rtakeL, ref02_Take.l0, g1, g2, g3, e1, l1, l3, hcan, hok, h0, insBlk]
            rfl
          · (repeat' (first | assumption | with_reducible apply AHeap.WF.push | with_reducible apply AHeap.WF.set)) <;> simp <;> omega
          · simp (disch := omega) [insBlk, h0]
  exact key _ _ rfl hcan
def takeGoR (h : Nat) : Nat → Nat → InsM × Int
  | 0, _ => (InsM.zero, 20)
  | k + 1, op => if isR op h then (candR op h, 0) else takeGoR h k (op + 1)
theorem takeGoR_eq (h : Nat) (hh : h < 65536) : ∀ k s : Nat, s + k = 21 → takeGoR h k s = takeGo h k s
  | 0, s, _ => rfl
  | k + 1, s, hs => by
    unfold takeGoR takeGo
    rw [isR_eq s h (by omega) hh, (takeS_eq s (by omega) h hh).2, takeGoR_eq h hh k (s + 1) (by omega)]
theorem rtake_all (h : BitVec 16) : ∀ (k s : Nat) (H : AHeap) (i0 : InsM), s + k = 21 → H.WF → H.get 0 = some (insBlk i0) → ∃ H' : AHeap,
    aloop rtakeL (AFr.al [(0, W16 h), (2, .ptr 0 5 0 0), (4, .int .i64 (s : Nat))]) H = (if (takeGoR h.toNat k s).2 = 0 then some (.ret, AFr.al [(2, .ptr 0 5 0 0), (3, .int .i64 0)], H') else some (.exit 0, AFr.al [(0, W16 h), (2, .ptr 0 5 0 0), (4, .int .i64 21), (13, .bool false)], H')) ∧
    H'.WF ∧ ∃ i1, H'.get 0 = some (insBlk i1) ∧ ((takeGoR h.toNat k s).2 = 0 → i1 = (takeGoR h.toNat k s).1)
  | 0, s, H, i0, hs, hw, h0 => by
    have hs' : s = 21 := by omega
    subst hs'
    refine ⟨H, ?_, hw, i0, h0, fun q => by simp [takeGoR] at q⟩
    rw [if_neg (by simp [takeGoR])]
    exact aloop_exit (by simp) (by simp -implicitDefEqProofs +contextual (disch := omega) [rtakeL, ref02_Take.l0])
  | k + 1, s, H, i0, hs, hw, h0 => by
    obtain ⟨H1, e1, e2, e3⟩ := rtake_out s (by omega) h H hw i0 h0
    unfold takeGoR
    by_cases hi : isR s h.toNat = true
    · rw [if_pos hi] at e1 e3
      simp only [hi, if_true]
      exact ⟨H1, aloop_exit (by simp) e1, e2, _, e3, fun _ => rfl⟩
    · rw [if_neg hi] at e1 e3
      simp only [hi, if_false, Bool.false_eq_true]
      obtain ⟨H2, f1, f2, f3⟩ := rtake_all h k (s + 1) H1 i0 (by omega) e2 e3
      exact ⟨H2, by rw [aloop_step e1]; exact f1, f2, f3⟩
theorem rTake_eq (h : BitVec 16) : ref02_Take.spec [W16 h] = some (.tup [InsAV (takeN h.toNat).1, .int .i64 (takeN h.toNat).2]) := by
  obtain ⟨H1, e1, e2, i1, e3, e4⟩ := rtake_all h 21 0 (AHeap.empty.push (insBlk InsM.zero)) InsM.zero rfl (AHeap.WF.push AHeap.WF.empty) (by simp)
  rw [takeGoR_eq h.toNat h.isLt 21 0 rfl] at e1 e4
  have hz := e2 _ _ e3
  have h20 := takeN_or h.toNat
  unfold takeN at h20 ⊢
  simp only [insBlk, InsM.zero, rtakeL] at e1 e3
  rw [show ((0 : Nat) : Int) = 0 from rfl] at e1
  generalize takeGo h.toNat 21 0 = r at e1 e4 h20 ⊢
  obtain ⟨ri, re⟩ := r
  rcases h20 with ⟨i, _, _, h5⟩ | h5
  · cases h5
    obtain rfl := e4 rfl
    rw [if_pos rfl] at e1
    simp -implicitDefEqProofs +contextual (disch := omega) [ref02_Take.spec, ref02_Take, e1, e3, InsAV]
  · cases h5
    rw [if_neg (by simp)] at e1
    simp -implicitDefEqProofs +contextual (disch := omega) [ref02_Take.spec, ref02_Take, e1, e3, InsAV, InsM.zero]
end Go.Abs
