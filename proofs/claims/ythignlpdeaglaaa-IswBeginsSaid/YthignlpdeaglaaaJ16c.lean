/-
  The gadgets, by the document: its code is the gadgets'.
-/
import Derived.Test.YthignlpdeaglaaaJ16b
set_option linter.unusedSimpArgs false
set_option linter.unusedVariables false
namespace Go.Abs
theorem gd_r19 (d : Nat) (and : Bool) (i j N : Nat) {n : Nat} {X : AHeap} {vo vu : AV} {ops : List OpM} {outs : List Int} (h : CdI n X vo vu ops outs) (hN : N = n + ops.length) (hl : ops.length ≤ 1000) (hn : n ≤ 100) (x : List (Nat × AV)) :
    ref19_Gadget.r19 (gdFr d and ([(8, .int .i64 i), (9, .int .i64 j)] ++ x)) X = some (.normal, gdFr d and [(8, .int .i64 i), (9, .int .i64 j), (10, .int .i64 N)], X) := by
  subst hN
  obtain ⟨f, g1⟩ := h.g1
  rcases h.ro with ⟨q1, rfl⟩ | ⟨ob, q1, rfl, go⟩
  · have hz : ops = [] := by simpa [opRows] using q1
    subst hz
    simp -implicitDefEqProofs +contextual (disch := try first | omega | assumption | (simp; done)) [ref19_Gadget.r19, gdFr, g1]
  · simp -implicitDefEqProofs +contextual (disch := try first | omega | assumption | (simp; done)) [ref19_Gadget.r19, gdFr, g1]
set_option maxHeartbeats 2000000 in
theorem gd_round (d : Nat) (hd : d ≤ 6) (and : Bool) (i j : Nat) (hij : i < j) (hj : j < d + 1) {X : AHeap} {vo : AV} {ub : Nat} (s : GadS) (h : CdI (gadIn and d) X vo (.sl ub 1 0 (d + 1)) s.ops s.outs) (hl : s.outs.length = d + 1) (hnn : ∀ x ∈ s.outs, 0 ≤ x) (hol : s.ops.length ≤ 900) (x : List (Nat × AV)) :
    ∃ X' vo' y, ref19_Gadget.l2 (gdFr d and ([(8, .int .i64 i), (9, .int .i64 j)] ++ x)) X = some (.normal, gdFr d and ([(8, .int .i64 i), (9, .int .i64 (j + 1 : Nat))] ++ y), X') ∧ CdI (gadIn and d) X' vo' (.sl ub 1 0 (d + 1)) (gadPair and d s (i, j)).ops (gadPair and d s (i, j)).outs := by
  obtain ⟨ops, outs⟩ := s
  dsimp only at *
  have hin : gadIn and d ≤ 14 := by unfold gadIn; split <;> omega
  obtain ⟨N, hN⟩ : ∃ N, N = gadIn and d + ops.length := ⟨_, rfl⟩
  have hj' : (j : Int) ≤ d := by omega
  have hj1 : ((j + 1 : Nat) : Int) = (j : Int) + 1 := by omega
  have e19 := gd_r19 d and i j N h hN (by omega) (by omega) [(68, .bool true)]
  obtain ⟨X1, v1, e20, I1⟩ := gd_r20 d hd and i j N (by omega) h (by omega) []
  have hW4 : (N : Int) + 4 = ((N + 4 : Nat) : Int) := by omega
  cases and with
  | true =>
    obtain ⟨X2, v2, e23, I2⟩ := gd_r23 d hd true i j N (by omega) (by omega) (by omega) (by omega) I1 (by simp; omega) [(11, .int .i64 N), (84, .bool true)]
    obtain ⟨W, hW⟩ : ∃ W, W = N + 4 := ⟨_, rfl⟩
    rw [← hW] at hW4
    obtain ⟨X3, v3, e25, I3⟩ := gd_r25 d hd true i j N W (by omega) I2 (by simp; omega) (by omega) (by omega) ⟨ub, by rw [hl]⟩ []
    rw [← hl] at I3
    obtain ⟨X4, e26, I4⟩ := gd_r26 d true i j W (by omega) I3 (by omega) (by omega) (by omega) []
    rw [hl] at I4
    simp only [gdFr, List.cons_append, List.nil_append] at e19 e20 e23 e25 e26
    refine ⟨X4, v3, ?_, ?_, ?_⟩
    rotate_left
    · simp -implicitDefEqProofs +contextual (disch := try first | omega | assumption | (simp; done)) [ref19_Gadget.l2, gdFr, hj', hj1, e19, e20, e23, e25, e26, hW4, -ref19_Gadget.r19, -ref19_Gadget.r20, -ref19_Gadget.r23, -ref19_Gadget.r25, -ref19_Gadget.r26]
      rfl
    · have e : gadPair true d ⟨ops, outs⟩ (i, j) = ⟨ops ++ [opM 0 0 0] ++ [opM 1 i (d + 1 + j), opM 2 N (N + 1), opM 1 j (d + 1 + i), opM 2 (N + 2) (N + 3)] ++ [⟨2, ati outs i, N, 0#32⟩, ⟨2, ati outs j, W, 0#32⟩], (outs.set i ((W + 1 : Nat) : Int)).set j ((W + 2 : Nat) : Int)⟩ := by
        unfold gadPair
        rw [hW, hN]
        simp [opM, outN, gadIn, ati_int outs _ hnn]
        rw [show 2 * ((d : Int) + 1) + ops.length + 4 + 1 = 2 * ((d : Int) + 1) + ops.length + 5 from by omega, show 2 * ((d : Int) + 1) + ops.length + 4 + 2 = 2 * ((d : Int) + 1) + ops.length + 6 from by omega]
      rw [e]; exact I4
  | false =>
    obtain ⟨W, hW⟩ : ∃ W, W = N := ⟨_, rfl⟩
    obtain ⟨X3, v3, e25, I3⟩ := gd_r25 d hd false i j N N (by omega) I1 (by simp; omega) (by omega) (by omega) ⟨ub, by rw [hl]⟩ [(84, .bool false)]
    rw [← hl] at I3
    obtain ⟨X4, e26, I4⟩ := gd_r26 d false i j N (by omega) I3 (by omega) (by omega) (by omega) []
    rw [hl] at I4
    simp only [gdFr, List.cons_append, List.nil_append] at e19 e20 e25 e26
    refine ⟨X4, v3, ?_, ?_, ?_⟩
    rotate_left
    · simp -implicitDefEqProofs +contextual (disch := try first | omega | assumption | (simp; done)) [ref19_Gadget.l2, gdFr, hj', hj1, e19, e20, e25, e26, -ref19_Gadget.r19, -ref19_Gadget.r20, -ref19_Gadget.r23, -ref19_Gadget.r25, -ref19_Gadget.r26]
      rfl
    · have e : gadPair false d ⟨ops, outs⟩ (i, j) = ⟨ops ++ [opM 0 0 0] ++ [⟨2, ati outs i, N, 0#32⟩, ⟨2, ati outs j, N, 0#32⟩], (outs.set i ((N + 1 : Nat) : Int)).set j ((N + 2 : Nat) : Int)⟩ := by
        unfold gadPair
        rw [hN]
        simp [opM, outN, gadIn, ati_int outs _ hnn]
      rw [e]; exact I4
def rowS (and : Bool) (d i k : Nat) (s : GadS) : GadS := (List.range' (i + 1) k).foldl (fun s j => gadPair and d s (i, j)) s
theorem rowS_succ (and : Bool) (d i k : Nat) (s : GadS) : rowS and d i (k + 1) s = gadPair and d (rowS and d i k s) (i, i + 1 + k) := by
  unfold rowS; rw [List.range'_concat, List.foldl_append]; simp
theorem rowS_b {and : Bool} {d i : Nat} {s : GadS} {m : Nat} (h : GadB d s m) : ∀ k, GadB d (rowS and d i k s) (m + 7 * k)
  | 0 => h
  | k + 1 => by
    rw [rowS_succ]
    have := (rowS_b (and := and) (i := i) h k).pair (and := and) (i, i + 1 + k)
    exact ⟨this.len, this.nn, by have := this.ops; omega⟩
def colS (and : Bool) (d n : Nat) (s : GadS) : GadS := (List.range n).foldl (fun s i => rowS and d i (d - i) s) s
theorem colS_succ (and : Bool) (d n : Nat) (s : GadS) : colS and d (n + 1) s = rowS and d n (d - n) (colS and d n s) := by
  unfold colS; rw [List.range_succ, List.foldl_append]; rfl
theorem colS_b {and : Bool} {d : Nat} {s : GadS} {m : Nat} (h : GadB d s m) : ∀ n, GadB d (colS and d n s) (m + 7 * d * n)
  | 0 => by simpa [colS] using h
  | n + 1 => by
    rw [colS_succ]
    have := rowS_b (and := and) (i := n) (colS_b (and := and) h n) (d - n)
    refine ⟨this.len, this.nn, ?_⟩
    have h1 := this.ops
    have h2 : 7 * (d - n) ≤ 7 * d := by omega
    rw [Nat.mul_succ]; omega
theorem colS_pairs (and : Bool) (d : Nat) (s : GadS) : colS and d (d + 1) s = (pairsN d).foldl (gadPair and d) s := by
  unfold colS pairsN
  rw [List.foldl_flatMap]
  congr 1
  funext s i
  rw [List.foldl_map]; rfl
theorem gd_row (d : Nat) (hd : d ≤ 6) (and : Bool) (i : Nat) (hi : i < d + 1) {X : AHeap} {vo : AV} {ub : Nat} (s : GadS) (m : Nat) (hm : m ≤ 800) (hB : GadB d s m) (h : CdI (gadIn and d) X vo (.sl ub 1 0 (d + 1)) s.ops s.outs) {r} (hr : aloop ref19_Gadget.l2 (gdFr d and [(8, .int .i64 i), (9, .int .i64 ((i : Int) + 1))]) X = r) :
    ∃ e fr' X', r = some (e, fr', X') ∧ (e = .exit 4 ∧ fr' 0 = .int .i64 d ∧ fr' 1 = .bool and ∧ fr' 4 = .ptr 0 3 0 0 ∧ fr' 6 = .ptr 1 3 0 0 ∧ fr' 8 = .int .i64 i ∧ ∃ vo', CdI (gadIn and d) X' vo' (.sl ub 1 0 (d + 1)) (rowS and d i (d - i) s).ops (rowS and d i (d - i) s).outs) := by
  refine run_of hr (aloop_each (d - i) (fun k fr H => ∃ y vo', fr = gdFr d and ([(8, .int .i64 i), (9, .int .i64 ((i + 1 + k : Nat) : Int))] ++ y) ∧ CdI (gadIn and d) H vo' (.sl ub 1 0 (d + 1)) (rowS and d i k s).ops (rowS and d i k s).outs) _ (fun k hk fr H hR => ?_) (fun fr H hR => ?_) ⟨[], vo, by simp, h⟩)
  · obtain ⟨y, vo', rfl, I⟩ := hR
    have hB2 := rowS_b (and := and) (i := i) hB k
    have hops := hB2.ops
    obtain ⟨X', vo2, y', s1, s2⟩ := gd_round d hd and i (i + 1 + k) (by omega) (by omega) _ I hB2.len hB2.nn (by omega) y
    refine ⟨_, _, _, s1, .inl ⟨rfl, y', vo2, rfl, ?_⟩⟩
    rw [rowS_succ]; exact s2
  · obtain ⟨y, vo', rfl, I⟩ := hR
    have e : i + 1 + (d - i) = d + 1 := by omega
    rw [e]
    refine ⟨_, _, _, by simp -implicitDefEqProofs +contextual (disch := omega) [ref19_Gadget.l2, gdFr]; first | rfl | exact ⟨rfl, rfl⟩ | exact ⟨rfl, rfl, rfl⟩, by simp, rfl, by simp, by simp, by simp, by simp, by simp, vo', I⟩
theorem gd_col (d : Nat) (hd : d ≤ 6) (and : Bool) {X : AHeap} {vo : AV} {ub : Nat} (s : GadS) (m : Nat) (hm : m ≤ 100) (hB : GadB d s m) (h : CdI (gadIn and d) X vo (.sl ub 1 0 (d + 1)) s.ops s.outs) {r} (hr : aloop ref19_Gadget.l1 (gdFr d and [(8, .int .i64 0)]) X = r) :
    ∃ e fr' X', r = some (e, fr', X') ∧ (e = .exit 2 ∧ fr' 4 = .ptr 0 3 0 0 ∧ fr' 6 = .ptr 1 3 0 0 ∧ ∃ vo', CdI (gadIn and d) X' vo' (.sl ub 1 0 (d + 1)) (colS and d (d + 1) s).ops (colS and d (d + 1) s).outs) := by
  refine run_of hr (aloop_each (d + 1) (fun k fr H => ∃ y vo', fr = gdFr d and ([(8, .int .i64 (k : Int))] ++ y) ∧ CdI (gadIn and d) H vo' (.sl ub 1 0 (d + 1)) (colS and d k s).ops (colS and d k s).outs) _ (fun k hk fr H hR => ?_) (fun fr H hR => ?_) ⟨[], vo, by simp, h⟩)
  · obtain ⟨y, vo', rfl, I⟩ := hR
    have hB2 := colS_b (and := and) hB k
    have hb : m + 7 * d * k ≤ 800 := by
      have h1 : 7 * d * k ≤ 7 * 6 * 6 := Nat.mul_le_mul (by omega) (by omega)
      omega
    have hk' : (k : Int) ≤ d := by omega
    have hk1 : ((k + 1 : Nat) : Int) = (k : Int) + 1 := by omega
    generalize hr2 : ref19_Gadget.l1 _ H = r2
    simp -implicitDefEqProofs +contextual (disch := omega) [ref19_Gadget.l1, gdFr, hk'] at hr2
    generalize hr3 : aloop _ _ _ = r3 at hr2
    obtain ⟨e, fr3, X3, rfl, rfl, p0, p1, p4, p6, p8, vo3, I3⟩ := gd_row d hd and k (by omega) _ _ hb hB2 I hr3
    simp -implicitDefEqProofs +contextual (disch := omega) [p0, p1, p4, p6, p8] at hr2
    subst hr2
    refine ⟨_, _, _, rfl, .inl ⟨rfl, [], vo3, by simp [gdFr, hk1], ?_⟩⟩
    rw [colS_succ]; exact I3
  · obtain ⟨y, vo', rfl, I⟩ := hR
    refine ⟨_, _, _, by simp -implicitDefEqProofs +contextual (disch := omega) [ref19_Gadget.l1, gdFr]; first | rfl | exact ⟨rfl, rfl⟩ | exact ⟨rfl, rfl, rfl⟩, by simp, rfl, by simp, by simp, vo', I⟩
def dgSt (and : Bool) (d n : Nat) : GadS := (List.range n).foldl (gadDiag and d) ⟨[], []⟩
theorem dgSt_succ (and : Bool) (d n : Nat) : dgSt and d (n + 1) = gadDiag and d (dgSt and d n) n := by
  unfold dgSt; rw [List.range_succ, List.foldl_append]; rfl
theorem dgSt_len (and : Bool) (d : Nat) : ∀ n, ((dgSt and d n).ops.length = if and then n else 0) ∧ (dgSt and d n).outs.length = n ∧ ∀ x ∈ (dgSt and d n).outs, 0 ≤ x
  | 0 => ⟨by cases and <;> rfl, rfl, by simp [dgSt]⟩
  | n + 1 => by
    obtain ⟨h1, h2, h3⟩ := dgSt_len and d n
    rw [dgSt_succ]
    cases and with
    | true =>
      refine ⟨by simpa [gadDiag] using h1, by simp [gadDiag, h2], fun x hx => ?_⟩
      simp only [gadDiag, if_true, List.mem_append, List.mem_singleton] at hx
      rcases hx with hx | rfl
      · exact h3 x hx
      · omega
    | false =>
      refine ⟨by simpa [gadDiag] using h1, by simp [gadDiag, h2], fun x hx => ?_⟩
      simp only [gadDiag, Bool.false_eq_true, if_false, List.mem_append, List.mem_singleton] at hx
      rcases hx with hx | rfl
      · exact h3 x hx
      · omega
theorem gd_diag (d : Nat) (hd : d ≤ 6) (and : Bool) {X : AHeap} (h : CdI (gadIn and d) X .nils .nils [] []) {r} (hr : aloop ref19_Gadget.l0 (gdFr d and [(7, .int .i64 0)]) X = r) :
    ∃ e fr' X', r = some (e, fr', X') ∧ (e = .exit 0 ∧ fr' 0 = .int .i64 d ∧ fr' 1 = .bool and ∧ fr' 4 = .ptr 0 3 0 0 ∧ fr' 6 = .ptr 1 3 0 0 ∧ ∃ vo' vu', CdI (gadIn and d) X' vo' vu' (dgSt and d (d + 1)).ops (dgSt and d (d + 1)).outs) := by
  have hin : gadIn and d ≤ 14 := by unfold gadIn; split <;> omega
  refine run_of hr (aloop_each (d + 1) (fun k fr H => ∃ y vo' vu', fr = gdFr d and ([(7, .int .i64 (k : Int))] ++ y) ∧ CdI (gadIn and d) H vo' vu' (dgSt and d k).ops (dgSt and d k).outs) _ (fun k hk fr H hR => ?_) (fun fr H hR => ?_) ⟨[], .nils, .nils, by simp, h⟩)
  · obtain ⟨y, vo', vu', rfl, I⟩ := hR
    obtain ⟨l1, l2, l3⟩ := dgSt_len and d k
    have hk' : (k : Int) ≤ d := by omega
    have hk1 : ((k + 1 : Nat) : Int) = (k : Int) + 1 := by omega
    rw [dgSt_succ]
    cases and with
    | true =>
      obtain ⟨X1, v1, e1, I1⟩ := gd_r10 d hd true k (by omega) (by omega) I (by rw [l1]; simp; omega) [(32, .bool true)]
      obtain ⟨X2, v2, e2, I2⟩ := gd_r11 d hd true k (by omega) (by omega) I1 (by omega) []
      simp only [gdFr, List.cons_append, List.nil_append] at e1 e2
      refine ⟨_, _, _, by simp -implicitDefEqProofs +contextual (disch := try first | omega | assumption | (simp; done)) [ref19_Gadget.l0, gdFr, hk', e1, e2, -ref19_Gadget.r10, -ref19_Gadget.r11]; first | rfl | exact ⟨rfl, rfl⟩ | exact ⟨rfl, rfl, rfl⟩, .inl ⟨rfl, [], v1, v2, by simp [gdFr, hk1], ?_⟩⟩
      simp only [gadDiag, if_true]
      rw [l1]
      simp only [if_true, show gadIn true d = 2 * (d + 1) from rfl] at I2 ⊢
      exact I2
    | false =>
      obtain ⟨X2, v2, e2, I2⟩ := gd_r12 d hd false k (by omega) (by omega) I (by omega) [(32, .bool false)]
      simp only [gdFr, List.cons_append, List.nil_append] at e2
      refine ⟨_, _, _, by simp -implicitDefEqProofs +contextual (disch := try first | omega | assumption | (simp; done)) [ref19_Gadget.l0, gdFr, hk', e2, -ref19_Gadget.r12]; first | rfl | exact ⟨rfl, rfl⟩ | exact ⟨rfl, rfl, rfl⟩, .inl ⟨rfl, [], vo', v2, by simp [gdFr, hk1], ?_⟩⟩
      simp only [gadDiag, Bool.false_eq_true, if_false]
      exact I2
  · obtain ⟨y, vo', vu', rfl, I⟩ := hR
    refine ⟨_, _, _, by simp -implicitDefEqProofs +contextual (disch := omega) [ref19_Gadget.l0, gdFr]; first | rfl | exact ⟨rfl, rfl⟩ | exact ⟨rfl, rfl, rfl⟩, by simp, rfl, by simp, by simp, by simp, by simp, vo', vu', I⟩
theorem dgSt_and (d : Nat) : colS true d (d + 1) (dgSt true d (d + 1)) = gadS true d := colS_pairs _ _ _
theorem dgSt_fresh (d : Nat) : colS false d (d + 1) (dgSt false d (d + 1)) = gadS false d := colS_pairs _ _ _
set_option maxHeartbeats 4000000 in
theorem rGadget_eq (d : Nat) (hd : d ≤ 6) (and : Bool) : ref19_Gadget.spec [.int .i64 d, .bool and] = some (.tup [.agg (gadC and d).cells, .int .i64 0]) := by
  have h1 : ¬ (d : Int) < 0 := by omega
  have h2 : ¬ (6 : Int) < d := by omega
  obtain ⟨l1, l2, l3⟩ := dgSt_len and d (d + 1)
  have hB0 : GadB d (dgSt and d (d + 1)) 7 := ⟨l2, l3, by rw [l1]; split <;> omega⟩
  have hB1 := colS_b (and := and) hB0 (d + 1)
  have hS : colS and d (d + 1) (dgSt and d (d + 1)) = gadS and d := by
    cases and
    · exact dgSt_fresh d
    · exact dgSt_and d
  rw [hS] at hB1
  have hlen := hB1.len
  have hops : (gadS and d).ops.length ≤ 400 := by
    have h1 : 7 * d * (d + 1) ≤ 7 * 6 * 7 := Nat.mul_le_mul (by omega) (by omega)
    have := hB1.ops; omega
  cases and with
  | true =>
    simp -implicitDefEqProofs +contextual (disch := omega) [ref19_Gadget.spec, ref19_Gadget, h1, h2]
    generalize hr : aloop _ _ _ = r
    obtain ⟨e, fr1, X1, rfl, rfl, p0, p1, p4, p6, vo1, vu1, I1⟩ := gd_diag d hd true ⟨by (repeat' (first | assumption | with_reducible apply AHeap.WF.push | with_reducible apply AHeap.WF.set | with_reducible apply killAll_wf | exact AHeap.WF.empty)) <;> (simp <;> omega), by simp [resBlk], ⟨true, by simp [gadIn]; try omega⟩, .inl ⟨rfl, rfl⟩, .inl ⟨rfl, rfl⟩⟩ hr
    obtain ⟨ub, rfl⟩ : ∃ ub, vu1 = .sl ub 1 0 (d + 1) := by
      rcases I1.ru with ⟨q1, _⟩ | ⟨ub, _, q2, _⟩
      · have := congrArg List.length q1; rw [ints_length, l2] at this; simp at this
      · exact ⟨ub, by rw [q2, ints_length, l2]⟩
    simp -implicitDefEqProofs +contextual (disch := omega) [p0, p1, p4, p6]
    generalize hr : aloop _ _ _ = r
    obtain ⟨e, fr2, X2, rfl, rfl, q4, q6, vo2, I2⟩ := gd_col d hd true (dgSt true d (d + 1)) 7 (by omega) hB0 I1 hr
    rw [hS] at I2
    have hc : (gadC true d).cells = [.int .i64 (gadIn true d : Nat), .rsl 4 (opRows (gadS true d).ops), .rsl 1 (ints (gadS true d).outs)] := rfl
    rw [hc]
    generalize gadS true d = s at *
    obtain ⟨f, g1⟩ := I2.g1
    have g0 := I2.g0
    simp only [resBlk] at g0
    rw [← hlen] at I2 g1
    obtain ⟨gu, hub⟩ := I2.vu_at rfl
    simp only [List.mem_cons, List.not_mem_nil, or_false, not_or] at hub
    rcases I2.ro with ⟨w1, rfl⟩ | ⟨ob, w1, rfl, go⟩
    · have hz : s.ops = [] := by simpa [opRows] using w1
      simp -implicitDefEqProofs +contextual (disch := omega) [q4, q6, g0, g1, gu, hub, hz, opRows]
    · simp only [List.mem_cons, List.not_mem_nil, or_false, not_or] at w1
      simp -implicitDefEqProofs +contextual (disch := omega) [q4, q6, g0, g1, gu, hub, go, w1, opRows_all]
  | false =>
    simp -implicitDefEqProofs +contextual (disch := omega) [ref19_Gadget.spec, ref19_Gadget, h1, h2]
    generalize hr : aloop _ _ _ = r
    obtain ⟨e, fr1, X1, rfl, rfl, p0, p1, p4, p6, vo1, vu1, I1⟩ := gd_diag d hd false ⟨by (repeat' (first | assumption | with_reducible apply AHeap.WF.push | with_reducible apply AHeap.WF.set | with_reducible apply killAll_wf | exact AHeap.WF.empty)) <;> (simp <;> omega), by simp [resBlk], ⟨true, by simp [gadIn]; try omega⟩, .inl ⟨rfl, rfl⟩, .inl ⟨rfl, rfl⟩⟩ hr
    obtain ⟨ub, rfl⟩ : ∃ ub, vu1 = .sl ub 1 0 (d + 1) := by
      rcases I1.ru with ⟨q1, _⟩ | ⟨ub, _, q2, _⟩
      · have := congrArg List.length q1; rw [ints_length, l2] at this; simp at this
      · exact ⟨ub, by rw [q2, ints_length, l2]⟩
    simp -implicitDefEqProofs +contextual (disch := omega) [p0, p1, p4, p6]
    generalize hr : aloop _ _ _ = r
    obtain ⟨e, fr2, X2, rfl, rfl, q4, q6, vo2, I2⟩ := gd_col d hd false (dgSt false d (d + 1)) 7 (by omega) hB0 I1 hr
    rw [hS] at I2
    have hc : (gadC false d).cells = [.int .i64 (gadIn false d : Nat), .rsl 4 (opRows (gadS false d).ops), .rsl 1 (ints (gadS false d).outs)] := rfl
    rw [hc]
    generalize gadS false d = s at *
    obtain ⟨f, g1⟩ := I2.g1
    have g0 := I2.g0
    simp only [resBlk] at g0
    rw [← hlen] at I2 g1
    obtain ⟨gu, hub⟩ := I2.vu_at rfl
    simp only [List.mem_cons, List.not_mem_nil, or_false, not_or] at hub
    rcases I2.ro with ⟨w1, rfl⟩ | ⟨ob, w1, rfl, go⟩
    · have hz : s.ops = [] := by simpa [opRows] using w1
      simp -implicitDefEqProofs +contextual (disch := omega) [q4, q6, g0, g1, gu, hub, hz, opRows]
    · simp only [List.mem_cons, List.not_mem_nil, or_false, not_or] at w1
      simp -implicitDefEqProofs +contextual (disch := omega) [q4, q6, g0, g1, gu, hub, go, w1, opRows_all]
theorem rGadget_no (d : Int) (hd : ¬ (0 ≤ d ∧ d ≤ 6)) (and : Bool) : ref19_Gadget.spec [.int .i64 d, .bool and] = some (.tup [noCode, .int .i64 1]) := by
  by_cases h1 : d < 0
  · simp -implicitDefEqProofs +contextual (disch := omega) [ref19_Gadget.spec, ref19_Gadget, h1, noCode]
  · have h2 : 6 < d := by omega
    simp -implicitDefEqProofs +contextual (disch := omega) [ref19_Gadget.spec, ref19_Gadget, h1, h2, noCode]
end Go.Abs
