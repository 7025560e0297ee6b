/-
  The laws of code over wires: what it makes; what a step makes hangs on none behind it.
-/
import Derived.Test.YthignlpdeaglaaaJ17
set_option linter.unusedSimpArgs false
set_option linter.unusedVariables false
namespace Go.Abs
theorem rows_ops (rows : List (List AV)) (h : ∀ row, row ∈ rows → ShsOk [.int .i64, .int .i64, .int .i64, .int .u32] row) : ∃ l : List OpM, rows = opRows l := by
  obtain ⟨l, h1, _⟩ := rows_of (enc := OpM.cells) (ok := fun _ => True) (fun row h => by
    obtain ⟨a0, _, rfl, q0, h⟩ := shs_cons h
    obtain ⟨a1, _, rfl, q1, h⟩ := shs_cons h
    obtain ⟨a2, _, rfl, q2, h⟩ := shs_cons h
    obtain ⟨a3, rfl, q3⟩ := shs_one h
    obtain ⟨x0, rfl, _⟩ := sh_i64 q0
    obtain ⟨x1, rfl, _⟩ := sh_i64 q1
    obtain ⟨x2, rfl, _⟩ := sh_i64 q2
    obtain ⟨x3, rfl⟩ := sh_u32 q3
    exact ⟨⟨x0, x1, x2, x3⟩, rfl, trivial⟩) rows h
  exact ⟨l, h1⟩
theorem sh_code {cs : List AV} {ss : List Sh} (h : ShsOk (.int .i64 :: .sl 4 32 [.int .i64, .int .i64, .int .i64, .int .u32] :: .sl 1 8 [.int .i64] :: ss) cs) :
    ∃ (c : CodeM) (r : List AV), cs = c.cells ++ r ∧ ShsOk ss r ∧ I64 c.inN ∧ c.ops.length ≤ 4398046511101 ∧ c.outs.length ≤ 17592186043904 := by
  obtain ⟨a0, _, rfl, q0, h⟩ := shs_cons h
  obtain ⟨a1, _, rfl, q1, h⟩ := shs_cons h
  obtain ⟨a2, r, rfl, q2, h9⟩ := shs_cons h
  obtain ⟨x0, rfl, hx⟩ := sh_i64 q0
  simp only [ShOk] at q1
  obtain ⟨rows, rfl, hb, hr⟩ := q1
  obtain ⟨l, rfl⟩ := rows_ops rows hr
  obtain ⟨m, rfl, hm, _⟩ := sh_slint q2
  refine ⟨⟨x0, l, m⟩, r, rfl, h9, hx, ?_, by dsimp only; omega⟩
  simp [reachBytes] at hb
  dsimp only; omega
theorem exec_len (c : CodeM) (inp tape : List (BitVec 32)) (hc : c.can = true) : (c.exec inp tape).1.length ≤ 64000 := by
  unfold CodeM.exec
  unfold CodeM.can at hc
  simp only [Bool.and_eq_true, decide_eq_true_eq] at hc
  split
  · rw [runOps_length, padM_length]; omega
  · simp
theorem exec_len' (c : CodeM) (inp tape : List (BitVec 32)) : (c.exec inp tape).1.length ≤ 64000 := by
  by_cases hc : c.can = true
  · exact exec_len c inp tape hc
  · unfold CodeM.exec; rw [if_neg fun h => hc h.1]; simp
set_option maxHeartbeats 4000000 in
theorem iswExecs_law (c : CodeM) (hl : c.ops.length ≤ 4398046511101) (hb : c.outs.length ≤ 17592186043904) (inp tape : List (BitVec 32)) (hi : inp.length ≤ 140737488351232) (ht : tape.length ≤ 140737488351232) :
    law19_IswExecs.spec [.agg c.cells, .rsl 1 (w32s inp), .rsl 1 (w32s tape)] = some (.bool true) := by
  have hS := Small_eq c (by omega) (by omega)
  by_cases hsm : c.ops.length ≤ 3000 ∧ c.outs.length ≤ 500
  · rw [decide_eq_true hsm.1, decide_eq_true hsm.2] at hS
    have s1 := short19_eq inp hi
    have s2 := short19_eq tape ht
    have b1 : (inp.take 200).length ≤ 200 := by rw [List.length_take]; omega
    have b2 : (tape.take 200).length ≤ 200 := by rw [List.length_take]; omega
    generalize inp.take 200 = x at *
    generalize tape.take 200 = t at *
    have hO := rOwn_eq c (by omega) (by omega)
    have e1 := Exec_eq c x t (by omega) (by omega) (by omega) (by omega)
    have e2 := rExec_eq c (by omega) (by omega) x t ⟨by omega, by omega⟩
    have hln := exec_len' c x t
    generalize (c.exec x t).1 = w at *
    generalize (c.exec x t).2 = ok at *
    have m1 := same32_eq w w (by omega)
    have o1 := Outs_eq c w (by omega) (by omega) (by omega)
    have o2 := rOuts_eq c w (by omega) (by omega) (by omega)
    have hol : (c.outsM w).length ≤ 1000000000 := by simp [CodeM.outsM]; omega
    generalize c.outsM w = u at *
    have m2 := same32_eq u u hol
    have c1 := Can_eq' c (by omega) (by omega)
    have c2 := rCan_eq c (by omega) (by omega)
    have r1 := Randoms_eq' c (by omega)
    have r2 := rRandoms_eq c (by omega)
    simp only [decide_true] at m1 m2
    unfold CodeM.cells at *
    simp -implicitDefEqProofs +contextual (disch := omega) [law19_IswExecs.spec, law19_IswExecs, hS, s1, s2, hO, e1, e2, m1, o1, o2, m2, c1, c2, r1, r2, lives19]
  · have hf : (decide (c.ops.length ≤ 3000) && decide (c.outs.length ≤ 500)) = false := by
      rw [← Bool.decide_and]; exact decide_eq_false hsm
    rw [hf] at hS
    unfold CodeM.cells at *
    simp -implicitDefEqProofs +contextual (disch := omega) [law19_IswExecs.spec, law19_IswExecs, hS, lives19]
theorem sh_sl32' {a : AV} (h : ShsOk [.sl 1 4 [.int .u32]] [a]) : ∃ l, a = .rsl 1 (w32s l) ∧ l.length ≤ 35184372087808 := by
  obtain ⟨l, h1, h2⟩ := sh_sl32 h.1
  exact ⟨l, h1, by omega⟩
theorem law19_IswExecs_law (args : List AV) (h : ArgsSh [(true, [.int .i64, .sl 4 32 [.int .i64, .int .i64, .int .i64, .int .u32], .sl 1 8 [.int .i64]]), (false, [.sl 1 4 [.int .u32]]), (false, [.sl 1 4 [.int .u32]])] args) : law19_IswExecs.spec args = some (.bool true) := by
  obtain ⟨cs, _, rfl, h1, h⟩ := args_agg h
  obtain ⟨a, _, rfl, h2, h⟩ := args_one h
  obtain ⟨b, _, rfl, h3, h⟩ := args_one h
  obtain rfl := args_nil h
  obtain ⟨c, r, rfl, hr, _, hl, hb⟩ := sh_code h1
  obtain rfl := shs_nil hr
  obtain ⟨x, rfl, hx⟩ := sh_sl32' h2
  obtain ⟨y, rfl, hy⟩ := sh_sl32' h3
  rw [List.append_nil]
  exact iswExecs_law c hl hb x y (by omega) (by omega)
theorem law19_IswCodes_law (args : List AV) (h : ArgsSh [(false, [.int .i64])] args) : law19_IswCodes.spec args = some (.bool true) := by
  obtain ⟨a, _, rfl, h2, h⟩ := args_one h
  obtain rfl := args_nil h
  obtain ⟨n, rfl, hn⟩ := sh_i64 h2.1
  exact iswCodes_law n hn
theorem w32s_nil : w32s [] = [] := rfl
def CodeM.cut (c : CodeM) (k : Nat) : CodeM := ⟨c.inN, c.ops.take k, []⟩
theorem cut_can (c : CodeM) (k : Nat) (h : c.can = true) : (c.cut k).can = true := by
  unfold CodeM.can at h ⊢
  unfold CodeM.cut
  dsimp only
  simp only [Bool.and_eq_true, decide_eq_true_eq, List.all_nil, and_true] at h ⊢
  obtain ⟨⟨⟨⟨q1, q2⟩, q3⟩, q4⟩, q5⟩ := h
  refine ⟨⟨⟨q1, q2⟩, by rw [List.length_take]; omega⟩, ?_⟩
  rw [opsOk_all] at q4 ⊢
  intro i hi
  have hi2 : i < c.ops.length := by rw [List.length_take] at hi; omega
  rw [List.getElem_take]
  exact q4 i hi2
theorem cut_exec (c : CodeM) (k : Nat) (hk : k < c.ops.length) (h : c.can = true) (inp tape : List (BitVec 32)) (hr : c.randoms ≤ tape.length) :
    (c.cut k).exec inp tape = ((c.exec inp tape).1.take (c.inN.toNat + k), true) ∧ (c.exec inp tape).2 = true ∧ ((c.exec inp tape).1.length : Int) = c.inN + c.ops.length := by
  have hin : 0 ≤ c.inN := by unfold CodeM.can at h; simp only [Bool.and_eq_true, decide_eq_true_eq] at h; exact h.1.1.1.1
  have hr2 : (c.cut k).randoms ≤ tape.length := Nat.le_trans (rndL_take_le c.ops k) hr
  unfold CodeM.exec
  rw [if_pos ⟨cut_can c k h, hr2⟩, if_pos ⟨h, hr⟩]
  dsimp only [CodeM.cut]
  have hlen : (runOps (c.ops.take k) (padM inp c.inN.toNat) tape).length = c.inN.toNat + k := by rw [runOps_length, padM_length, List.length_take]; omega
  have e : runOps c.ops (padM inp c.inN.toNat) tape = runOps (c.ops.drop k) (runOps (c.ops.take k) (padM inp c.inN.toNat) tape) (tape.drop ((c.ops.take k).filter fun o => decide (o.k = 0)).length) := by
    rw [← runOps_append, List.take_append_drop]
  refine ⟨?_, rfl, ?_⟩
  · rw [e, ← hlen, runOps_take]
  · rw [runOps_length, padM_length]; omega
set_option maxHeartbeats 4000000 in
theorem iswBegins_law (c : CodeM) (hl : c.ops.length ≤ 4398046511101) (hb : c.outs.length ≤ 17592186043904) (inp tape : List (BitVec 32)) (hi : inp.length ≤ 140737488351232) (ht : tape.length ≤ 140737488351232) (at_ : BitVec 16) :
    law19_IswBegins.spec [.agg c.cells, .agg [.rsl 1 (w32s inp), .rsl 1 (w32s tape)], W16 at_] = some (.bool true) := by
  have hS := Small_eq c (by omega) (by omega)
  by_cases hsm : c.ops.length ≤ 3000 ∧ c.outs.length ≤ 500
  · rw [decide_eq_true hsm.1, decide_eq_true hsm.2] at hS
    have c2 := rCan_eq c (by omega) (by omega)
    by_cases hz : c.ops.length = 0
    · unfold CodeM.cells at *
      simp -implicitDefEqProofs +contextual (disch := omega) [law19_IswBegins.spec, law19_IswBegins, hS, lives19, hz]
    · by_cases hc : c.can = true
      · rw [hc] at c2
        have s1 := short19_eq inp hi
        have s2 := short19_eq tape ht
        have b1 : (inp.take 200).length ≤ 200 := by rw [List.length_take]; omega
        have b2 : (tape.take 200).length ≤ 200 := by rw [List.length_take]; omega
        generalize inp.take 200 = x at *
        generalize tape.take 200 = t at *
        have hO := rOwn_eq c (by omega) (by omega)
        have e1 := Exec_eq c x t (by omega) (by omega) (by omega) (by omega)
        have hln := exec_len' c x t
        obtain ⟨k, hk⟩ : ∃ k, k = at_.toNat % c.ops.length := ⟨_, rfl⟩
        have hkl : k < c.ops.length := by rw [hk]; exact Nat.mod_lt _ (by omega)
        have hkI : (at_.toNat : Int) % (c.ops.length : Int) = (k : Int) := by rw [hk]; simp
        have e2 := Exec_eq (c.cut k) x t (by simp [CodeM.cut]) (by simp [CodeM.cut]; omega) (by omega) (by omega)
        have hz' : ¬ (c.ops.length : Int) = 0 := by omega
        have hin : 0 ≤ c.inN ∧ c.inN ≤ 4000 := by unfold CodeM.can at hc; simp only [Bool.and_eq_true, decide_eq_true_eq] at hc; exact hc.1.1.1
        by_cases hr : c.randoms ≤ t.length
        · obtain ⟨p1, p2, p3⟩ := cut_exec c k hkl hc x t hr
          rw [p1] at e2
          rw [p2] at e1
          generalize (c.exec x t).1 = w at *
          obtain ⟨n, hn⟩ : ∃ n : Nat, c.inN = n := ⟨c.inN.toNat, by omega⟩
          have hn2 : c.inN.toNat = n := by omega
          rw [hn2] at e2
          have hnk : n + k ≤ w.length := by omega
          have hnk2 : ((n : Int) + (k : Int)).toNat = n + k := by omega
          have m1 := same32_eq (w.take (n + k)) (w.take (n + k)) (by rw [List.length_take]; omega)
          simp only [decide_true] at m1
          have hck : (c.cut k).cells = [.int .i64 (n : Int), .rsl 4 ((opRows c.ops).take k), .rsl 1 []] := by simp [CodeM.cut, CodeM.cells, opRows, ints, hn, List.map_take]
          rw [hck] at e2
          unfold CodeM.cells at *
          simp only [hn] at hS c2 hO e1 p3 ⊢
          have hkw : k < (opRows c.ops).length := by simpa using hkl
          by_cases hk0 : (opRows c.ops).take k = []
          · rw [hk0] at e2
            simp -implicitDefEqProofs +contextual (disch := omega) [law19_IswBegins.spec, law19_IswBegins, hS, lives19, hz, hz', c2, s1, s2, hO, e1, hkI, e2, hk0, p3, w32s_take, m1, hnk2, List.take_take]
          · simp -implicitDefEqProofs +contextual (disch := omega) [law19_IswBegins.spec, law19_IswBegins, hS, lives19, hz, hz', c2, s1, s2, hO, e1, hkI, e2, hk0, p3, w32s_take, m1, hnk2, List.take_take]
        · have p1 : c.exec x t = ([], false) := by unfold CodeM.exec; rw [if_neg fun q => hr q.2]
          rw [p1] at e1
          have hln2 := exec_len' (c.cut k) x t
          generalize ((c.cut k).exec x t).1 = w at *
          generalize ((c.cut k).exec x t).2 = ok at *
          obtain ⟨n, hn⟩ : ∃ n : Nat, c.inN = n := ⟨c.inN.toNat, by omega⟩
          have hck : (c.cut k).cells = [.int .i64 (n : Int), .rsl 4 ((opRows c.ops).take k), .rsl 1 []] := by simp [CodeM.cut, CodeM.cells, opRows, ints, hn, List.map_take]
          rw [hck] at e2
          unfold CodeM.cells at *
          simp only [hn] at hS c2 hO e1 ⊢
          have hkw : k < (opRows c.ops).length := by simpa using hkl
          by_cases hk0 : (opRows c.ops).take k = []
          · rw [hk0] at e2
            simp -implicitDefEqProofs +contextual (disch := omega) [law19_IswBegins.spec, law19_IswBegins, hS, lives19, hz, hz', c2, s1, s2, hO, e1, hkI, e2, hk0, List.take_take, w32s_nil]
          · simp -implicitDefEqProofs +contextual (disch := omega) [law19_IswBegins.spec, law19_IswBegins, hS, lives19, hz, hz', c2, s1, s2, hO, e1, hkI, e2, hk0, List.take_take, w32s_nil]
      · rw [Bool.not_eq_true] at hc
        rw [hc] at c2
        unfold CodeM.cells at *
        simp -implicitDefEqProofs +contextual (disch := omega) [law19_IswBegins.spec, law19_IswBegins, hS, lives19, hz, c2]
  · have hf : (decide (c.ops.length ≤ 3000) && decide (c.outs.length ≤ 500)) = false := by
      rw [← Bool.decide_and]; exact decide_eq_false hsm
    rw [hf] at hS
    unfold CodeM.cells at *
    simp -implicitDefEqProofs +contextual (disch := omega) [law19_IswBegins.spec, law19_IswBegins, hS, lives19]
theorem law19_IswBegins_law (args : List AV) (h : ArgsSh [(true, [.int .i64, .sl 4 32 [.int .i64, .int .i64, .int .i64, .int .u32], .sl 1 8 [.int .i64]]), (true, [.sl 1 4 [.int .u32], .sl 1 4 [.int .u32]]), (false, [.int .u16])] args) : law19_IswBegins.spec args = some (.bool true) := by
  obtain ⟨cs, _, rfl, h1, h⟩ := args_agg h
  obtain ⟨ds, _, rfl, h2, h⟩ := args_agg h
  obtain ⟨b, _, rfl, h3, h⟩ := args_one h
  obtain rfl := args_nil h
  obtain ⟨c, r, rfl, hr, _, hl, hb⟩ := sh_code h1
  obtain rfl := shs_nil hr
  obtain ⟨d0, _, rfl, q0, h2⟩ := shs_cons h2
  obtain ⟨d1, rfl, q1⟩ := shs_one h2
  obtain ⟨x, rfl, hx⟩ := sh_sl32 q0
  obtain ⟨y, rfl, hy⟩ := sh_sl32 q1
  obtain ⟨z, rfl⟩ := sh_u16 h3.1
  rw [List.append_nil]
  exact iswBegins_law c hl hb x y (by omega) (by omega) z
end Go.Abs
