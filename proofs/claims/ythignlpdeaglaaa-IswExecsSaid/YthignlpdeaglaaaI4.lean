/-
  A gadget's wires, pair by pair.
-/
import Derived.Test.YthignlpdeaglaaaI3
set_option linter.unusedSimpArgs false
set_option linter.unusedVariables false
namespace Go.Abs
theorem at0_wire (W : List (BitVec 32)) (l : List (BitVec 32)) (n k : Nat) (hn : n = W.length + k) : at0 (W ++ l) n = at0 l k := by subst hn; exact at0_ge W l k
theorem run_and7' (W : List (BitVec 32)) (t : List (BitVec 32)) (i j ib jb oi oj n0 n1 n2 n3 n4 : Nat) (h1 : i < W.length) (h2 : jb < W.length) (h3 : j < W.length) (h4 : ib < W.length) (h5 : oi < W.length) (h6 : oj < W.length)
    (e0 : n0 = W.length + 0) (e1 : n1 = W.length + 1) (e2 : n2 = W.length + 2) (e3 : n3 = W.length + 3) (e4 : n4 = W.length + 4) :
    runOps [opM 0 0 0, opM 1 i jb, opM 2 n0 n1, opM 1 j ib, opM 2 n2 n3, opM 2 oi n0, opM 2 oj n4] W t =
      W ++ [at0 t 0, at0 W i &&& at0 W jb, at0 t 0 ^^^ (at0 W i &&& at0 W jb), at0 W j &&& at0 W ib, at0 t 0 ^^^ (at0 W i &&& at0 W jb) ^^^ (at0 W j &&& at0 W ib),
        at0 W oi ^^^ at0 t 0, at0 W oj ^^^ (at0 t 0 ^^^ (at0 W i &&& at0 W jb) ^^^ (at0 W j &&& at0 W ib))] := by
  have g0 := fun l => at0_wire W l n0 0 e0
  have g1 := fun l => at0_wire W l n1 1 e1
  have g2 := fun l => at0_wire W l n2 2 e2
  have g3 := fun l => at0_wire W l n3 3 e3
  have g4 := fun l => at0_wire W l n4 4 e4
  have c0 : ∀ (x : BitVec 32) l, at0 (x :: l) 0 = x := fun _ _ => rfl
  have c2 : ∀ (x y z : BitVec 32) l, at0 (x :: y :: z :: l) 2 = z := fun _ _ _ _ => rfl
  have c3 : ∀ (x y z u : BitVec 32) l, at0 (x :: y :: z :: u :: l) 3 = u := fun _ _ _ _ _ => rfl
  have c4 : ∀ (x y z u v : BitVec 32) l, at0 (x :: y :: z :: u :: v :: l) 4 = v := fun _ _ _ _ _ _ => rfl
  have c5 : ∀ (x y : BitVec 32) l, at0 (x :: y :: l) 1 = y := fun _ _ _ => rfl
  simp only [runOps, opM, takesM, stepW, Int.toNat_natCast, List.append_assoc, List.cons_append, List.nil_append]
  simp [at0_lt, g0, g1, g2, g3, g4, c0, c2, c3, c4, c5, h1, h2, h3, h4, h5, h6]
theorem run_and7 (W : List (BitVec 32)) (t : List (BitVec 32)) (d i j oi oj : Nat) (h1 : i < W.length) (h2 : d + 1 + j < W.length) (h3 : j < W.length) (h4 : d + 1 + i < W.length) (h5 : oi < W.length) (h6 : oj < W.length) :
    ∃ r, runOps [opM 0 0 0, opM 1 i (d + 1 + j), opM 2 W.length (W.length + 1), opM 1 j (d + 1 + i), opM 2 (W.length + 2) (W.length + 3), opM 2 oi W.length, opM 2 oj (W.length + 4)] W t =
      W ++ [r, at0 W i &&& at0 W (d + 1 + j), r ^^^ (at0 W i &&& at0 W (d + 1 + j)), at0 W j &&& at0 W (d + 1 + i), r ^^^ (at0 W i &&& at0 W (d + 1 + j)) ^^^ (at0 W j &&& at0 W (d + 1 + i)),
        at0 W oi ^^^ r, at0 W oj ^^^ (r ^^^ (at0 W i &&& at0 W (d + 1 + j)) ^^^ (at0 W j &&& at0 W (d + 1 + i)))] :=
  ⟨at0 t 0, run_and7' W t i j (d + 1 + i) (d + 1 + j) oi oj _ _ _ _ _ h1 h2 h3 h4 h5 h6 rfl rfl rfl rfl rfl⟩
theorem run_fresh3 (W : List (BitVec 32)) (t : List (BitVec 32)) (oi oj : Nat) (h5 : oi < W.length) (h6 : oj < W.length) :
    ∃ r, runOps [opM 0 0 0, opM 2 oi W.length, opM 2 oj W.length] W t = W ++ [r, at0 W oi ^^^ r, at0 W oj ^^^ r] := by
  refine ⟨at0 t 0, ?_⟩
  have g0 : ∀ l, at0 (W ++ l) W.length = at0 l 0 := fun l => at0_ge W l 0
  have c0 : ∀ (x : BitVec 32) l, at0 (x :: l) 0 = x := fun _ _ => rfl
  simp only [runOps, opM, takesM, stepW, Int.toNat_natCast, List.append_assoc, List.cons_append, List.nil_append]
  simp [at0_lt, g0, c0, h5, h6]
theorem gad_and (d : Nat) (w0 t : List (BitVec 32)) (s : GadS) (E : BitVec 32) (h : GadOk true d w0 t s E) (hw : w0.length = 2 * (d + 1)) (i j : Nat) (hij : i < j) (hj : j < d + 1) :
    GadOk true d w0 t (gadPair true d s (i, j)) (E ^^^ ((at0 w0 i &&& at0 w0 (d + 1 + j)) ^^^ (at0 w0 j &&& at0 w0 (d + 1 + i)))) := by
  obtain ⟨W, hW⟩ : ∃ W, W = runOps s.ops w0 t := ⟨_, rfl⟩
  have hl : W.length = gadIn true d + s.ops.length := by rw [hW, runOps_length, hw]; rfl
  have hin : gadIn true d = 2 * (d + 1) := rfl
  have hpre : ∀ k, k < 2 * (d + 1) → at0 W k = at0 w0 k := fun k hk => by
    have := runOps_take s.ops w0 t
    rw [← hW, hw] at this
    rw [← this]
    simp only [at0, List.getD_eq_getElem?_getD, List.getElem?_take, if_pos hk]
  obtain ⟨li, hi⟩ := h.lt i (by omega)
  obtain ⟨lj, hj'⟩ := h.lt j hj
  obtain ⟨r, hr⟩ := run_and7 W (t.drop (s.ops.filter fun o : OpM => decide (o.k = 0)).length) d i j (outN s i) (outN s j) (by omega) (by omega) (by omega) (by omega) (by omega) (by omega)
  have hrun := show runOps (gadPair true d s (i, j)).ops w0 t = _ from by
    simp only [gadPair, if_true, ← hl]
    rw [runOps_append, ← hW]
  rw [hr] at hrun
  rw [hpre i (by omega), hpre (d + 1 + j) (by omega), hpre j (by omega), hpre (d + 1 + i) (by omega)] at hrun
  have houts : ∀ k, k < d + 1 → ati (gadPair true d s (i, j)).outs k = if k = j then ((W.length + 6 : Nat) : Int) else if k = i then ((W.length + 5 : Nat) : Int) else ati s.outs k := fun k hk => by
    simp only [gadPair, if_true, ← hl]
    rw [ati_set _ _ _ _ (by rw [List.length_set, h.len]; omega), ati_set _ _ _ _ (by rw [h.len]; omega)]
  have hlen : (gadPair true d s (i, j)).ops.length = s.ops.length + 7 := by simp [gadPair]
  refine ⟨by simp [gadPair, h.len], fun k hk => ?_, ?_⟩
  · rw [outN, houts k hk, hlen]
    obtain ⟨q1, q2⟩ := h.lt k hk
    rw [outN] at q2
    repeat' split
    all_goals (constructor <;> omega)
  · rw [hrun, sum_two (fun k => at0 W (outN s k)) _ (d + 1) i j r (r ^^^ (at0 w0 i &&& at0 w0 (d + 1 + j)) ^^^ (at0 w0 j &&& at0 w0 (d + 1 + i))) (by omega) hj (by omega) ?_, hW, h.sum]
    · rw [BitVec.xor_assoc E, BitVec.xor_assoc, ← BitVec.xor_assoc r, BitVec.xor_self, BitVec.zero_xor]
    · intro k hk
      have ho : outN (gadPair true d s (i, j)) k = (if k = j then ((W.length + 6 : Nat) : Int) else if k = i then ((W.length + 5 : Nat) : Int) else ati s.outs k).toNat := by rw [outN, houts k hk]
      rw [ho]
      split
      · rename_i e; subst e; rw [Int.toNat_natCast, at0_ge]; rfl
      · split
        · rename_i e; subst e; rw [Int.toNat_natCast, at0_ge]; rfl
        · have := (h.lt k hk).2
          rw [outN] at this
          rw [at0_lt _ _ _ (by omega)]; rfl
theorem gad_fresh (d : Nat) (w0 t : List (BitVec 32)) (s : GadS) (E : BitVec 32) (h : GadOk false d w0 t s E) (hw : w0.length = d + 1) (i j : Nat) (hij : i < j) (hj : j < d + 1) :
    GadOk false d w0 t (gadPair false d s (i, j)) E := by
  obtain ⟨W, hW⟩ : ∃ W, W = runOps s.ops w0 t := ⟨_, rfl⟩
  have hl : W.length = gadIn false d + s.ops.length := by rw [hW, runOps_length, hw]; rfl
  have hin : gadIn false d = d + 1 := rfl
  obtain ⟨li, hi⟩ := h.lt i (by omega)
  obtain ⟨lj, hj'⟩ := h.lt j hj
  obtain ⟨r, hr⟩ := run_fresh3 W (t.drop (s.ops.filter fun o : OpM => decide (o.k = 0)).length) (outN s i) (outN s j) (by omega) (by omega)
  have hrun := show runOps (gadPair false d s (i, j)).ops w0 t = _ from by
    simp only [gadPair, if_false, ← hl, Bool.false_eq_true]
    rw [runOps_append, ← hW]
  rw [hr] at hrun
  have houts : ∀ k, k < d + 1 → ati (gadPair false d s (i, j)).outs k = if k = j then ((W.length + 2 : Nat) : Int) else if k = i then ((W.length + 1 : Nat) : Int) else ati s.outs k := fun k hk => by
    simp only [gadPair, if_false, ← hl, Bool.false_eq_true]
    rw [ati_set _ _ _ _ (by rw [List.length_set, h.len]; omega), ati_set _ _ _ _ (by rw [h.len]; omega)]
  have hlen : (gadPair false d s (i, j)).ops.length = s.ops.length + 3 := by simp [gadPair]
  refine ⟨by simp [gadPair, h.len], fun k hk => ?_, ?_⟩
  · rw [outN, houts k hk, hlen]
    obtain ⟨q1, q2⟩ := h.lt k hk
    rw [outN] at q2
    repeat' split
    all_goals (constructor <;> omega)
  · rw [hrun, sum_two (fun k => at0 W (outN s k)) _ (d + 1) i j r r (by omega) hj (by omega) ?_, hW, h.sum]
    · rw [BitVec.xor_assoc E, BitVec.xor_self, BitVec.xor_zero]
    · intro k hk
      have ho : outN (gadPair false d s (i, j)) k = (if k = j then ((W.length + 2 : Nat) : Int) else if k = i then ((W.length + 1 : Nat) : Int) else ati s.outs k).toNat := by rw [outN, houts k hk]
      rw [ho]
      split
      · rename_i e; subst e; rw [Int.toNat_natCast, at0_ge]; rfl
      · split
        · rename_i e; subst e; rw [Int.toNat_natCast, at0_ge]; rfl
        · have := (h.lt k hk).2
          rw [outN] at this
          rw [at0_lt _ _ _ (by omega)]; rfl
theorem diag_ok (and : Bool) (d : Nat) (w0 t : List (BitVec 32)) (hw : w0.length = gadIn and d) : GadOk and d w0 t ((List.range (d + 1)).foldl (gadDiag and d) ⟨[], []⟩)
    (if and then xorL ((List.range (d + 1)).map fun i => at0 w0 i &&& at0 w0 (d + 1 + i)) else xorL ((List.range (d + 1)).map fun i => at0 w0 i)) := by
  have key : ∀ k, k ≤ d + 1 → (List.range k).foldl (gadDiag and d) ⟨[], []⟩ = if and then ⟨(List.range k).map fun i => opM 1 i (d + 1 + i), (List.range k).map fun i => ((2 * (d + 1) + i : Nat) : Int)⟩ else ⟨[], (List.range k).map fun i : Nat => (i : Int)⟩ := by
    intro k
    induction k with
    | zero => intro _; cases and <;> rfl
    | succ k ih =>
      intro hk
      rw [List.range_succ, List.foldl_append, ih (by omega)]
      cases and
      · simp [gadDiag, List.range_succ]
      · simp [gadDiag, List.range_succ]
  rw [key _ (Nat.le_refl _)]
  have hrun : ∀ k, k ≤ d + 1 → and = true → runOps ((List.range k).map fun i => opM 1 i (d + 1 + i)) w0 t = w0 ++ (List.range k).map fun i => at0 w0 i &&& at0 w0 (d + 1 + i) := by
    intro k
    induction k with
    | zero => intro _ _; simp [runOps]
    | succ k ih =>
      intro hk ha
      subst ha
      have hw' : w0.length = 2 * (d + 1) := hw
      rw [List.range_succ, List.map_append, runOps_append, ih (by omega) rfl]
      generalize t.drop _ = t'
      have g1 : at0 (w0 ++ (List.range k).map fun i => at0 w0 i &&& at0 w0 (d + 1 + i)) k = at0 w0 k := at0_lt _ _ _ (by omega)
      have g2 : at0 (w0 ++ (List.range k).map fun i => at0 w0 i &&& at0 w0 (d + 1 + i)) (d + 1 + k) = at0 w0 (d + 1 + k) := at0_lt _ _ _ (by omega)
      simp only [List.map_cons, List.map_nil, runOps, opM, takesM, stepW, Int.toNat_natCast]
      rw [g1, g2]
      simp
  cases and with
  | true =>
    refine ⟨by simp, fun k hk => ?_, ?_⟩
    · simp only [if_true, outN, ati, List.getD_eq_getElem?_getD, List.getElem?_map, List.getElem?_range hk, Option.map_some, Option.getD_some, gadIn, List.length_map, List.length_range]
      constructor <;> omega
    · simp only [if_true]
      rw [hrun _ (Nat.le_refl _) rfl]
      congr 1
      apply List.map_congr_left
      intro k hk
      rw [List.mem_range] at hk
      have hw' : w0.length = 2 * (d + 1) := hw
      have : outN ⟨(List.range (d + 1)).map fun i => opM 1 i (d + 1 + i), (List.range (d + 1)).map fun i => ((2 * (d + 1) + i : Nat) : Int)⟩ k = w0.length + k := by
        simp only [outN, ati, List.getD_eq_getElem?_getD, List.getElem?_map, List.getElem?_range hk, Option.map_some, Option.getD_some]
        omega
      rw [this, at0_ge, at0_map _ _ _ hk]
  | false =>
    refine ⟨by simp, fun k hk => ?_, ?_⟩
    · simp only [Bool.false_eq_true, if_false, outN, ati, List.getD_eq_getElem?_getD, List.getElem?_map, List.getElem?_range hk, Option.map_some, Option.getD_some, gadIn, List.length_nil]
      constructor <;> omega
    · simp only [Bool.false_eq_true, if_false, runOps]
      congr 1
      apply List.map_congr_left
      intro k hk
      rw [List.mem_range] at hk
      simp only [outN, ati, List.getD_eq_getElem?_getD, List.getElem?_map, List.getElem?_range hk, Option.map_some, Option.getD_some, Int.toNat_natCast]
theorem pairsN_lt (d : Nat) : ∀ p ∈ pairsN d, p.1 < p.2 ∧ p.2 < d + 1 := by
  intro p hp
  simp only [pairsN, List.mem_flatMap, List.mem_range, List.mem_map, List.mem_range'_1] at hp
  obtain ⟨i, hi, j, hj, rfl⟩ := hp
  dsimp only
  omega
theorem gadS_ok_and (d : Nat) (w0 t : List (BitVec 32)) (hw : w0.length = 2 * (d + 1)) :
    GadOk true d w0 t (gadS true d) (xorL ((List.range (d + 1)).map fun i => at0 w0 i) &&& xorL ((List.range (d + 1)).map fun i => at0 w0 (d + 1 + i))) := by
  have key : ∀ (l : List (Nat × Nat)) (s : GadS) (E : BitVec 32), (∀ p ∈ l, p.1 < p.2 ∧ p.2 < d + 1) → GadOk true d w0 t s E →
      GadOk true d w0 t (l.foldl (gadPair true d) s) (E ^^^ xorL (l.map fun p => (at0 w0 p.1 &&& at0 w0 (d + 1 + p.2)) ^^^ (at0 w0 p.2 &&& at0 w0 (d + 1 + p.1)))) := by
    intro l
    induction l with
    | nil => intro s E _ h; simpa using h
    | cons p l ih =>
      intro s E hl h
      obtain ⟨h1, h2⟩ := hl p (by simp)
      have := ih _ _ (fun q hq => hl q (by simp [hq])) (gad_and d w0 t s E h hw p.1 p.2 h1 h2)
      rw [List.foldl_cons, List.map_cons, xorL_cons, ← BitVec.xor_assoc]
      exact this
  have h0 := diag_ok true d w0 t hw
  rw [if_pos rfl] at h0
  have := key (pairsN d) _ _ (pairsN_lt d) h0
  rw [prod_pairs (fun i => at0 w0 i) (fun i => at0 w0 (d + 1 + i)) d]
  exact this
theorem gadS_ok_fresh (d : Nat) (w0 t : List (BitVec 32)) (hw : w0.length = d + 1) : GadOk false d w0 t (gadS false d) (xorL ((List.range (d + 1)).map fun i => at0 w0 i)) := by
  have key : ∀ (l : List (Nat × Nat)) (s : GadS) (E : BitVec 32), (∀ p ∈ l, p.1 < p.2 ∧ p.2 < d + 1) → GadOk false d w0 t s E → GadOk false d w0 t (l.foldl (gadPair false d) s) E := by
    intro l
    induction l with
    | nil => intro s E _ h; exact h
    | cons p l ih =>
      intro s E hl h
      obtain ⟨h1, h2⟩ := hl p (by simp)
      exact ih _ _ (fun q hq => hl q (by simp [hq])) (gad_fresh d w0 t s E h hw p.1 p.2 h1 h2)
  have h0 := diag_ok false d w0 t hw
  rw [if_neg (by simp)] at h0
  exact key (pairsN d) _ _ (pairsN_lt d) h0
theorem gad_out (and : Bool) (d : Nat) (w0 t : List (BitVec 32)) (E : BitVec 32) (h : GadOk and d w0 t (gadS and d) E) : xorL ((gadC and d).outsM (runOps (gadC and d).ops w0 t)) = E := by
  rw [← h.sum]
  congr 1
  apply List.ext_getElem?
  intro k
  simp only [gadC, CodeM.outsM, List.getElem?_map]
  by_cases hk : k < d + 1
  · have hk' : k < (gadS and d).outs.length := by rw [h.len]; exact hk
    have h0 := (h.lt k hk).1
    have e : (gadS and d).outs[k] = ati (gadS and d).outs k := by simp [ati, List.getD_eq_getElem?_getD, hk']
    rw [List.getElem?_eq_getElem hk', List.getElem?_range hk]
    simp only [Option.map_some, e, if_pos h0, outN]
  · rw [List.getElem?_eq_none (by rw [h.len]; omega), List.getElem?_eq_none (by simp; omega)]
    rfl
end Go.Abs
