import Derived.Test.YthignlpdeaglaaaJH
import Derived.Test.YthignlpdeaglaaaL23F
section
set_option linter.unusedSimpArgs false
set_option linter.unusedVariables false
namespace Go.Abs
set_option maxHeartbeats 2000000 in
theorem light_eq (c : CodeM) (hl : c.ops.length ≤ 4398046511101) (hb : c.outs.length ≤ 17592186043904) (s d : Int) (probes : List Int) (hp : probes.length ≤ 17592186043904) :
    ∃ b, law23_light.spec [.agg (askCells c s d), .rsl 1 (ints probes)] = some (.bool b) ∧ (b = true → c.ops.length ≤ 100 ∧ c.outs.length ≤ 100 ∧ probes.length ≤ 8) := by
  unfold askCells
  by_cases h1 : (c.ops.length : Int) ≤ 100
  · by_cases h2 : (c.outs.length : Int) ≤ 100
    · by_cases h3 : (probes.length : Int) ≤ 8
      · have hL := rLooks_eq c (by omega) (by omega) s d probes (by omega)
        have hR := rRandoms_eq c (by omega)
        unfold CodeM.cells at hL hR
        by_cases hz : looksM c s d probes = 0
        · obtain ⟨q1, q2, q3, q4⟩ := looks_zero hz
          obtain ⟨_, s1, s2, d1, d2, _⟩ := q1
          obtain ⟨_, m3, m4⟩ := mul_bound s d s1 s2 d1 d2
          obtain ⟨m, hm⟩ : ∃ m, s * d = m := ⟨_, rfl⟩
          rw [hm] at m3 m4
          rw [hz] at hL
          have hrn : c.randoms ≤ 100 := Nat.le_trans (rndL_le c.ops) (by omega)
          refine ⟨decide (m + c.randoms ≤ 7), ?_, fun _ => ⟨by omega, by omega, by omega⟩⟩
          simp -implicitDefEqProofs +contextual (disch := try first | omega | assumption | (simp; done)) [law23_light.spec, law23_light, h1, h2, h3, hL, hR, hm]
        · refine ⟨true, ?_, fun _ => ⟨by omega, by omega, by omega⟩⟩
          simp -implicitDefEqProofs +contextual (disch := try first | omega | assumption | (simp; done)) [law23_light.spec, law23_light, h1, h2, h3, hL, hz]
      · exact ⟨false, by simp -implicitDefEqProofs +contextual (disch := try first | omega | assumption | (simp; done)) [law23_light.spec, law23_light, h1, h2, h3], by simp⟩
    · exact ⟨false, by simp -implicitDefEqProofs +contextual (disch := try first | omega | assumption | (simp; done)) [law23_light.spec, law23_light, h1, h2], by simp⟩
  · exact ⟨false, by simp -implicitDefEqProofs +contextual (disch := try first | omega | assumption | (simp; done)) [law23_light.spec, law23_light, h1], by simp⟩
def c23 : CodeM := ⟨2, [], []⟩
theorem c23_facts : looksM c23 1 1 [1] = 0 ∧ looksM c23 1 1 [0, 1] = 0 ∧ (AskM.mk c23 1 1).safe 0#32 [1] = true ∧ (AskM.mk c23 1 1).safe 0#32 [0, 1] = false := by decide +kernel
theorem lives23 : law23_lives.spec [] = some (.bool true) := by
  obtain ⟨h1, h2, h3, h4⟩ := c23_facts
  have a1 := Safe_eq c23 (by simp [c23]) (by simp [c23]) 1 1 0#32 [1] (by simp)
  have a2 := Safe_eq c23 (by simp [c23]) (by simp [c23]) 1 1 0#32 [0, 1] (by simp)
  have e : (1 : Int).toNat = 1 := rfl
  rw [e, h1, h3] at a1
  rw [e, h2, h4] at a2
  have hc : c23.cells = [.int .i64 2, .rsl 4 [], .rsl 1 []] := rfl
  rw [hc, ints1] at a1
  rw [hc, ints2] at a2
  simp -implicitDefEqProofs +contextual (disch := omega) [law23_lives.spec, law23_lives, a1, a2]
set_option maxHeartbeats 2000000 in
theorem probeSafes_law (c : CodeM) (hl : c.ops.length ≤ 4398046511101) (hb : c.outs.length ≤ 17592186043904) (s d : Int) (p : BitVec 32) (probes : List Int) (hp : probes.length ≤ 17592186043904) :
    law23_ProbeSafes.spec [.agg (askCells c s d), W32 p, .rsl 1 (ints probes)] = some (.bool true) := by
  obtain ⟨b, hL, hbb⟩ := light_eq c hl hb s d probes hp
  unfold askCells at hL ⊢
  cases b with
  | false => simp -implicitDefEqProofs +contextual (disch := omega) [law23_ProbeSafes.spec, law23_ProbeSafes, hL, lives23]
  | true =>
    obtain ⟨h1, h2, h3⟩ := hbb rfl
    have hO := rOwn_eq c (by omega) (by omega)
    have a1 := Safe_eq c (by omega) (by omega) s d p probes (by omega)
    have a2 := rSafe_eq c (by omega) (by omega) s d p probes (by omega)
    generalize (decide (looksM c s d probes = 0) && (AskM.mk c s.toNat d.toNat).safe p probes) = v at *
    generalize looksM c s d probes = w at *
    unfold CodeM.cells at *
    by_cases hz : ints probes = []
    · rw [hz] at a1 a2 hL ⊢
      simp -implicitDefEqProofs +contextual (disch := omega) [law23_ProbeSafes.spec, law23_ProbeSafes, hL, lives23, hO, a1, a2]
    · simp -implicitDefEqProofs +contextual (disch := omega) [law23_ProbeSafes.spec, law23_ProbeSafes, hL, lives23, hO, a1, a2, hz]
theorem sh_case {cs : List AV} (h : ShsOk [.int .i64, .sl 4 32 [.int .i64, .int .i64, .int .i64, .int .u32], .sl 1 8 [.int .i64], .int .i64, .int .i64] cs) :
    ∃ (c : CodeM) (s d : Int), cs = askCells c s d ∧ c.ops.length ≤ 4398046511101 ∧ c.outs.length ≤ 17592186043904 ∧ I64 s ∧ I64 d := by
  obtain ⟨c, r, rfl, h, _, hl, hb⟩ := sh_code h
  obtain ⟨a3, _, rfl, q3, h⟩ := shs_cons h
  obtain ⟨a4, rfl, q4⟩ := shs_one h
  obtain ⟨s, rfl, hs⟩ := sh_i64 q3
  obtain ⟨d, rfl, hd⟩ := sh_i64 q4
  exact ⟨c, s, d, rfl, hl, hb, hs, hd⟩
theorem law23_ProbeSafes_law (args : List AV) (h : ArgsSh [(true, [.int .i64, .sl 4 32 [.int .i64, .int .i64, .int .i64, .int .u32], .sl 1 8 [.int .i64], .int .i64, .int .i64]), (false, [.int .u32]), (false, [.sl 1 8 [.int .i64]])] args) : law23_ProbeSafes.spec args = some (.bool true) := by
  obtain ⟨cs, _, rfl, h1, h⟩ := args_agg h
  obtain ⟨a, _, rfl, h2, h⟩ := args_one h
  obtain ⟨b, _, rfl, h3, h⟩ := args_one h
  obtain rfl := args_nil h
  obtain ⟨c, s, d, rfl, hl, hb, _, _⟩ := sh_case h1
  obtain ⟨p, rfl⟩ := sh_u32 h2.1
  obtain ⟨l, rfl, hp, _⟩ := sh_slint h3.1
  exact probeSafes_law c hl hb s d p l (by omega)
set_option maxHeartbeats 2000000 in
theorem probeSpreads_law (c : CodeM) (hl : c.ops.length ≤ 4398046511101) (hb : c.outs.length ≤ 17592186043904) (s d : Int) (w0 w1 : BitVec 32) (probes : List Int) (hp : probes.length ≤ 17592186043904) :
    law23_ProbeSpreads.spec [.agg (askCells c s d), .agg [W32 w0, W32 w1], .rsl 1 (ints probes)] = some (.bool true) := by
  obtain ⟨b, hL, hbb⟩ := light_eq c hl hb s d probes hp
  unfold askCells at hL ⊢
  cases b with
  | false => simp -implicitDefEqProofs +contextual (disch := omega) [law23_ProbeSpreads.spec, law23_ProbeSpreads, hL, lives23]
  | true =>
    obtain ⟨h1, h2, h3⟩ := hbb rfl
    have hO := rOwn_eq c (by omega) (by omega)
    have a1 := Spread_eq c (by omega) (by omega) s d w0 w1 probes (by omega)
    have a2 := rSpread23_eq c (by omega) (by omega) s d w0 w1 probes (by omega)
    have hlen : (if looksM c s d probes = 0 then (AskM.mk c s.toNat d.toNat).spread w0 w1 probes else []).length ≤ 1000000000 := by
      split
      · rw [AskM.spread_length]
        exact pow_le_of (show probes.length ≤ 8 by omega) (by omega)
      · simp
    generalize (if looksM c s d probes = 0 then (AskM.mk c s.toNat d.toNat).spread w0 w1 probes else []) = v at *
    generalize looksM c s d probes = w at *
    have hS := sameI_eq v v hlen
    simp only [decide_true] at hS
    unfold CodeM.cells at *
    by_cases hz : ints probes = []
    · rw [hz] at a1 a2 hL ⊢
      simp -implicitDefEqProofs +contextual (disch := omega) [law23_ProbeSpreads.spec, law23_ProbeSpreads, hL, lives23, hO, a1, a2, hS]
    · simp -implicitDefEqProofs +contextual (disch := omega) [law23_ProbeSpreads.spec, law23_ProbeSpreads, hL, lives23, hO, a1, a2, hz, hS]
theorem law23_ProbeSpreads_law (args : List AV) (h : ArgsSh [(true, [.int .i64, .sl 4 32 [.int .i64, .int .i64, .int .i64, .int .u32], .sl 1 8 [.int .i64], .int .i64, .int .i64]), (true, [.int .u32, .int .u32]), (false, [.sl 1 8 [.int .i64]])] args) : law23_ProbeSpreads.spec args = some (.bool true) := by
  obtain ⟨cs, _, rfl, h1, h⟩ := args_agg h
  obtain ⟨ds, _, rfl, h2, h⟩ := args_agg h
  obtain ⟨b, _, rfl, h3, h⟩ := args_one h
  obtain rfl := args_nil h
  obtain ⟨c, s, d, rfl, hl, hb, _, _⟩ := sh_case h1
  obtain ⟨d0, _, rfl, q0, h2⟩ := shs_cons h2
  obtain ⟨d1, rfl, q1⟩ := shs_one h2
  obtain ⟨x, rfl⟩ := sh_u32 q0
  obtain ⟨y, rfl⟩ := sh_u32 q1
  obtain ⟨l, rfl, hp, _⟩ := sh_slint h3.1
  exact probeSpreads_law c hl hb s d x y l (by omega)
end Go.Abs
end
section
set_option linter.unusedSimpArgs false
set_option linter.unusedVariables false
namespace Go.Abs
theorem firsts_same (c : CodeM) (hb : c.outs.length ≤ 1000000000) (hb2 : c.ops.length ≤ 1000000000) (s d n : Int) (hn : I64 n) :
    ∃ (l : List Int) (w : Int), probe_First.spec [.agg c.cells, .int .i64 s, .int .i64 d, .int .i64 n] = some (.tup [.rsl 1 (ints l), .int .i64 w]) ∧ ref23_First.spec [.agg c.cells, .int .i64 s, .int .i64 d, .int .i64 n] = some (.tup [.rsl 1 (ints l), .int .i64 w]) ∧ l.length ≤ 2 := by
  obtain ⟨a1, a2, a3⟩ := First_eq c hb hb2 s d n hn
  obtain ⟨b1, b2, b3⟩ := rFirst_eq c hb hb2 s d n hn
  by_cases h : looksM c s d [] = 0
  · by_cases hbad : firstBad c n
    · exact ⟨[], 1, a2 h hbad, b2 h hbad, by simp⟩
    · obtain ⟨l, p1, p2, p3⟩ := a3 h hbad
      obtain ⟨m, q1, q2, q3⟩ := b3 h hbad
      have hn12 : n = 1 ∨ n = 2 := by unfold firstBad at hbad; omega
      have e : l = m := by
        rcases hn12 with e | e
        · exact (p2 e).unique (q2 e)
        · exact (p3 e).unique (q3 e)
      subst e
      refine ⟨l, 0, p1, q1, ?_⟩
      rcases hn12 with e | e
      · rcases p2 e with ⟨rfl, _⟩ | ⟨i, _, rfl, _⟩ <;> simp
      · rcases p3 e with ⟨rfl, _⟩ | ⟨i, k, _, _, rfl, _⟩ <;> simp
  · exact ⟨[], _, a1 h, b1 h, by simp⟩
set_option maxHeartbeats 4000000 in
theorem probeFirst_law (c : CodeM) (hl : c.ops.length ≤ 4398046511101) (hb : c.outs.length ≤ 17592186043904) (s d n : Int) (hn : I64 n) :
    law23_ProbeFirst.spec [.agg (askCells c s d), .int .i64 n] = some (.bool true) := by
  obtain ⟨b, hL, hbb⟩ := light_eq c hl hb s d [] (by simp)
  rw [ints0] at hL
  unfold askCells at hL ⊢
  cases b with
  | false => simp -implicitDefEqProofs +contextual (disch := omega) [law23_ProbeFirst.spec, law23_ProbeFirst, hL, lives23]
  | true =>
    obtain ⟨h1, h2, h3⟩ := hbb rfl
    have hO := rOwn_eq c (by omega) (by omega)
    have hR := rRandoms_eq c (by omega)
    have hLk := rLooks_eq c (by omega) (by omega) s d [] (by simp)
    rw [ints0] at hLk
    obtain ⟨l, w, a1, a2, a3⟩ := firsts_same c (by omega) (by omega) s d n hn
    have hS := sameI_eq l l (by omega)
    simp only [decide_true] at hS
    unfold CodeM.cells at *
    have hrn : c.randoms ≤ 100 := Nat.le_trans (rndL_le c.ops) (by omega)
    by_cases hA : (24 : Int) < c.ops.length ∧ n = 2
    · simp -implicitDefEqProofs +contextual (disch := omega) [law23_ProbeFirst.spec, law23_ProbeFirst, hL, lives23, hA.1, hA.2]
    · have main : ∀ (k1 : Bool), (decide ((24 : Int) < c.ops.length)) = k1 → (k1 = true → ¬ n = 2) → law23_ProbeFirst.spec [.agg [.int .i64 c.inN, .rsl 4 (opRows c.ops), .rsl 1 (ints c.outs), .int .i64 s, .int .i64 d], .int .i64 n] = some (.bool true) := by
        intro k1 hk1 hk2
        by_cases hz : looksM c s d [] = 0
        · obtain ⟨⟨_, s1, s2, d1, d2, _⟩, _⟩ := looks_zero hz
          obtain ⟨_, m3, m4⟩ := mul_bound s d s1 s2 d1 d2
          obtain ⟨m, hm⟩ : ∃ m, s * d = m := ⟨_, rfl⟩
          rw [hm] at m3 m4
          rw [hz] at hLk
          by_cases hV : 5 < m + c.randoms
          · cases k1 with
            | true => simp -implicitDefEqProofs +contextual (disch := omega) [law23_ProbeFirst.spec, law23_ProbeFirst, hL, lives23, of_decide_eq_true hk1, hk2 rfl, hR, hm, hV, hLk]
            | false => simp -implicitDefEqProofs +contextual (disch := omega) [law23_ProbeFirst.spec, law23_ProbeFirst, hL, lives23, of_decide_eq_false hk1, hR, hm, hV, hLk]
          · cases k1 with
            | true => simp -implicitDefEqProofs +contextual (disch := omega) [law23_ProbeFirst.spec, law23_ProbeFirst, hL, lives23, of_decide_eq_true hk1, hk2 rfl, hR, hm, hV, hLk, hO, a1, a2, hS]
            | false => simp -implicitDefEqProofs +contextual (disch := omega) [law23_ProbeFirst.spec, law23_ProbeFirst, hL, lives23, of_decide_eq_false hk1, hR, hm, hV, hLk, hO, a1, a2, hS]
        · by_cases hV : 5 < IntKind.i64.wrap (IntKind.i64.wrap (s * d) + c.randoms)
          · cases k1 with
            | true => simp -implicitDefEqProofs +contextual (disch := omega) [law23_ProbeFirst.spec, law23_ProbeFirst, hL, lives23, of_decide_eq_true hk1, hk2 rfl, hR, hV, hLk, hz, hO, a1, a2, hS]
            | false => simp -implicitDefEqProofs +contextual (disch := omega) [law23_ProbeFirst.spec, law23_ProbeFirst, hL, lives23, of_decide_eq_false hk1, hR, hV, hLk, hz, hO, a1, a2, hS]
          · cases k1 with
            | true => simp -implicitDefEqProofs +contextual (disch := omega) [law23_ProbeFirst.spec, law23_ProbeFirst, hL, lives23, of_decide_eq_true hk1, hk2 rfl, hR, hV, hLk, hz, hO, a1, a2, hS]
            | false => simp -implicitDefEqProofs +contextual (disch := omega) [law23_ProbeFirst.spec, law23_ProbeFirst, hL, lives23, of_decide_eq_false hk1, hR, hV, hLk, hz, hO, a1, a2, hS]
      exact main _ rfl (fun q e => hA ⟨of_decide_eq_true q, e⟩)
theorem law23_ProbeFirst_law (args : List AV) (h : ArgsSh [(true, [.int .i64, .sl 4 32 [.int .i64, .int .i64, .int .i64, .int .u32], .sl 1 8 [.int .i64], .int .i64, .int .i64]), (false, [.int .i64])] args) : law23_ProbeFirst.spec args = some (.bool true) := by
  obtain ⟨cs, _, rfl, h1, h⟩ := args_agg h
  obtain ⟨b, _, rfl, h3, h⟩ := args_one h
  obtain rfl := args_nil h
  obtain ⟨c, s, d, rfl, hl, hb, _, _⟩ := sh_case h1
  obtain ⟨n, rfl, hn⟩ := sh_i64 h3.1
  exact probeFirst_law c hl hb s d n hn
end Go.Abs
end
section
set_option linter.unusedSimpArgs false
set_option linter.unusedVariables false
namespace Go.Abs
noncomputable abbrev paL0 := law23_ProbeAll.l0 law23_light.spec law23_lives.spec ref19_Own.spec probe_Spread.spec ref19_Randoms.spec
noncomputable abbrev paL1 := law23_ProbeAll.l1 law23_light.spec law23_lives.spec ref19_Own.spec probe_Spread.spec ref19_Randoms.spec
noncomputable abbrev paL2 := law23_ProbeAll.l2 law23_light.spec law23_lives.spec ref19_Own.spec probe_Spread.spec ref19_Randoms.spec
def caseBlk (c : CodeM) (s d : Int) : Blk := ⟨T.ty_bautalaw23_Case, 5, true, [[.int .i64 c.inN, .rsl 4 (opRows c.ops), .rsl 1 (ints c.outs), .int .i64 s, .int .i64 d]]⟩
theorem pa_pow (c : CodeM) (hl : c.ops.length ≤ 100) (s d : Int) (m : Int) (hm : s * d = m) (hm2 : 0 ≤ m ∧ m ≤ 24) (N : Nat) (hN : (N : Int) = m + c.randoms) (hN12 : N ≤ 12) (L K : AV) (X : AHeap) (hg : X.get 0 = some (caseBlk c s d)) {r}
    (hr : aloop paL0 (AFr.al [(3, .ptr 0 5 0 0), (7, L), (9, K), (10, .int .i64 0), (11, .int .i64 0), (12, .int .i64 1), (13, .int .i64 0)]) X = r) :
    ∃ e fr' X', r = some (e, fr', X') ∧ (e = .exit 0 ∧ X' = X ∧ ∃ y, fr' = AFr.al ([(3, .ptr 0 5 0 0), (7, L), (9, K), (10, .int .i64 0), (11, .int .i64 0), (12, .int .i64 (2 ^ N : Nat))] ++ y)) := by
  have hR := rRandoms_eq c (by omega)
  unfold CodeM.cells at hR
  simp only [caseBlk] at hg
  have hrn : c.randoms ≤ 100 := Nat.le_trans (rndL_le c.ops) (by omega)
  refine run_of hr (aloop_each N (fun k fr H => H = X ∧ ∃ y, fr = AFr.al ([(3, .ptr 0 5 0 0), (7, L), (9, K), (10, .int .i64 0), (11, .int .i64 0), (12, .int .i64 (2 ^ k : Nat)), (13, .int .i64 k)] ++ y)) _ (fun k hk fr H hR2 => ?_) (fun fr H hR2 => ?_) ⟨rfl, [], rfl⟩)
  · obtain ⟨rfl, y, rfl⟩ := hR2
    have hk' : (k : Int) < m + c.randoms := by omega
    have hk1 : ((k + 1 : Nat) : Int) = (k : Int) + 1 := by omega
    have hp : 2 ^ k ≤ 4096 := pow_le_of (show k ≤ 12 by omega) (by omega)
    have hp1 : ((2 ^ (k + 1) : Nat) : Int) = ((2 ^ k : Nat) : Int) * 2 := by rw [Nat.pow_succ]; omega
    rw [hp1, hk1]
    generalize 2 ^ k = q at *
    refine ⟨_, _, _, by simp -implicitDefEqProofs +contextual (disch := omega) [law23_ProbeAll.l0, hg, hm, hR, hk']; first | rfl | exact ⟨rfl, rfl⟩ | exact ⟨rfl, rfl, rfl⟩, .inl ⟨rfl, rfl, _, rfl⟩⟩
  · obtain ⟨rfl, y, rfl⟩ := hR2
    refine ⟨_, _, _, by simp -implicitDefEqProofs +contextual (disch := omega) [law23_ProbeAll.l0, hg, hm, hR, hN]; first | rfl | exact ⟨rfl, rfl⟩ | exact ⟨rfl, rfl, rfl⟩, by simp, rfl, rfl, _, rfl⟩
theorem pa_sum (l : List Int) (hl : l.length ≤ 1000) (hb : ∀ i, 0 ≤ ati l i ∧ ati l i ≤ 1000000) (K A : AV) (X : AHeap) {r}
    (hr : aloop paL1 (AFr.al [(7, .rsl 1 (ints l)), (9, K), (10, .int .i64 0), (11, .int .i64 0), (12, A), (14, .int .i64 0)]) X = r) :
    ∃ e fr' X', r = some (e, fr', X') ∧ (e = .exit 2 ∧ X' = X ∧ ∃ y, fr' = AFr.al ([(7, .rsl 1 (ints l)), (9, K), (10, .int .i64 0), (11, .int .i64 l.sum), (12, A)] ++ y)) := by
  have hsb : ∀ k, k ≤ l.length → 0 ≤ (l.take k).sum ∧ (l.take k).sum ≤ (k * 1000000 : Nat) := by
    intro k
    induction k with
    | zero => intro _; simp
    | succ k ih =>
      intro hk
      have := ih (by omega)
      have h2 := hb k
      rw [ati_eq l k (by omega)] at h2
      rw [List.take_succ_eq_append_getElem (by omega), List.sum_append]
      simp only [List.sum_cons, List.sum_nil]
      omega
  refine run_of hr (aloop_each l.length (fun k fr H => H = X ∧ ∃ y, fr = AFr.al ([(7, .rsl 1 (ints l)), (9, K), (10, .int .i64 0), (11, .int .i64 (l.take k).sum), (12, A), (14, .int .i64 k)] ++ y)) _ (fun k hk fr H hR2 => ?_) (fun fr H hR2 => ?_) ⟨rfl, [], rfl⟩)
  · obtain ⟨rfl, y, rfl⟩ := hR2
    have hk' : (k : Int) < l.length := by omega
    have hk1 : ((k + 1 : Nat) : Int) = (k : Int) + 1 := by omega
    have h1 := hsb k (by omega)
    have h2 := hb k
    have e : (l.take (k + 1)).sum = (l.take k).sum + ati l k := by
      rw [List.take_succ_eq_append_getElem hk, List.sum_append, ati_eq l k hk]; simp
    rw [e, hk1]
    generalize (l.take k).sum = z at *
    refine ⟨_, _, _, by simp -implicitDefEqProofs +contextual (disch := omega) [law23_ProbeAll.l1, hk', hk]; first | rfl | exact ⟨rfl, rfl⟩ | exact ⟨rfl, rfl, rfl⟩, .inl ⟨rfl, rfl, _, rfl⟩⟩
  · obtain ⟨rfl, y, rfl⟩ := hR2
    rw [List.take_length]
    refine ⟨_, _, _, by simp -implicitDefEqProofs +contextual (disch := omega) [law23_ProbeAll.l1]; first | rfl | exact ⟨rfl, rfl⟩ | exact ⟨rfl, rfl, rfl⟩, by simp, rfl, rfl, _, rfl⟩
theorem pa_halves (l k : List Int) (hl : l.length = 2 * k.length) (hk : k.length ≤ 100) (hb : ∀ i, 0 ≤ ati l i ∧ ati l i ≤ 1000000) (hh : ∀ i, i < k.length → ati k i = ati l (2 * i) + ati l (2 * i + 1)) (X : AHeap) {r}
    (hr : aloop paL2 (AFr.al [(7, .rsl 1 (ints l)), (9, .rsl 1 (ints k)), (15, .int .i64 0)]) X = r) :
    ∃ e fr' X', r = some (e, fr', X') ∧ (e = .exit 4 ∧ X' = X) := by
  refine run_of hr (aloop_each k.length (fun i fr H => H = X ∧ ∃ y, fr = AFr.al ([(7, .rsl 1 (ints l)), (9, .rsl 1 (ints k)), (15, .int .i64 i)] ++ y)) _ (fun i hi fr H hR2 => ?_) (fun fr H hR2 => ?_) ⟨rfl, [], rfl⟩)
  · obtain ⟨rfl, y, rfl⟩ := hR2
    have hi' : (i : Int) < k.length := by omega
    have hi1 : ((i + 1 : Nat) : Int) = (i : Int) + 1 := by omega
    have h1 := hb (2 * i)
    have h2 := hb (2 * i + 1)
    have h3 := hh i hi
    have c1 : 2 * (i : Int) < l.length := by omega
    have c2 : 2 * (i : Int) + 1 < l.length := by omega
    have c3 : (2 * (i : Int)).toNat = 2 * i := by omega
    have c4 : (2 * (i : Int) + 1).toNat = 2 * i + 1 := by omega
    have c5 : 2 * i < l.length := by omega
    have c6 : 2 * i + 1 < l.length := by omega
    rw [hi1]
    refine ⟨_, _, _, by simp -implicitDefEqProofs +contextual (disch := omega) [law23_ProbeAll.l2, hi', hi, c1, c2, c3, c4, c5, c6, h3]; first | rfl | exact ⟨rfl, rfl⟩ | exact ⟨rfl, rfl, rfl⟩, .inl ⟨rfl, rfl, _, rfl⟩⟩
  · obtain ⟨rfl, y, rfl⟩ := hR2
    refine ⟨_, _, _, by simp -implicitDefEqProofs +contextual (disch := omega) [law23_ProbeAll.l2]; first | rfl | exact ⟨rfl, rfl⟩ | exact ⟨rfl, rfl, rfl⟩, by simp, rfl, rfl⟩
set_option maxHeartbeats 4000000 in
theorem probeAll_law (c : CodeM) (hl : c.ops.length ≤ 4398046511101) (hb : c.outs.length ≤ 17592186043904) (s d : Int) (w0 w1 : BitVec 32) (probes : List Int) (hp : probes.length ≤ 17592186043904) :
    law23_ProbeAll.spec [.agg (askCells c s d), .agg [W32 w0, W32 w1], .rsl 1 (ints probes)] = some (.bool true) := by
  obtain ⟨b, hL, hbb⟩ := light_eq c hl hb s d probes hp
  unfold askCells at hL ⊢
  cases b with
  | false => simp -implicitDefEqProofs +contextual (disch := omega) [law23_ProbeAll.spec, law23_ProbeAll, hL, lives23]
  | true =>
    obtain ⟨h1, h2, h3⟩ := hbb rfl
    rcases List.eq_nil_or_concat probes with rfl | ⟨ini, x, hpr⟩
    · rw [ints0] at hL ⊢
      simp -implicitDefEqProofs +contextual (disch := omega) [law23_ProbeAll.spec, law23_ProbeAll, hL, lives23]
    · rw [List.concat_eq_append] at hpr
      subst hpr
      have hO := rOwn_eq c (by omega) (by omega)
      have a1 := Spread_eq c (by omega) (by omega) s d w0 w1 (ini ++ [x]) (by omega)
      have a2 := Spread_eq c (by omega) (by omega) s d w0 w1 ini (by simp at h3; omega)
      have hlen : (ini ++ [x]).length = ini.length + 1 := by simp
      have hz : ¬ ints (ini ++ [x]) = [] := by intro e; have := congrArg List.length e; simp at this
      have htk : (ints (ini ++ [x])).take ini.length = ints ini := by rw [ints_take]; simp
      have ht2 : (ints (ini ++ [x])).take (ini.length + 1) = ints (ini ++ [x]) := List.take_of_length_le (by simp)
      have hlI : ((ini.length + 1 : Nat) : Int) - 1 = (ini.length : Int) := by omega
      have hl8 : ini.length ≤ 7 := by omega
      by_cases hk : looksM c s d (ini ++ [x]) = 0
      · obtain ⟨hq1, hq2, hq3, hq4⟩ := looks_zero hk
        have hk2 : looksM c s d ini = 0 := looks_add hk (by omega) (fun y hy => hq2 y (by simp [hy]))
        rw [hk, if_pos rfl] at a1
        rw [hk2, if_pos rfl] at a2
        obtain ⟨_, s1, s2, d1, d2, _⟩ := hq1
        obtain ⟨_, m3, m4⟩ := mul_bound s d s1 s2 d1 d2
        obtain ⟨m, hm⟩ : ∃ m, s * d = m := ⟨_, rfl⟩
        rw [hm] at m3 m4
        have hmk : ((AskM.mk c s.toNat d.toNat).masks : Int) = m := by
          show ((s.toNat * d.toNat : Nat) : Int) = m
          rw [Int.natCast_mul, Int.toNat_of_nonneg s1, Int.toNat_of_nonneg d1, hm]
        have hN : (((AskM.mk c s.toNat d.toNat).masks + (AskM.mk c s.toNat d.toNat).tapes : Nat) : Int) = m + c.randoms := by
          have : (AskM.mk c s.toNat d.toNat).tapes = c.randoms := rfl
          omega
        have hsum := (AskM.mk c s.toNat d.toNat).spread_all w0 w1 (ini ++ [x])
        have hlast := fun i hi => (AskM.mk c s.toNat d.toNat).spread_last w0 w1 ini x i hi
        have hl1 := (AskM.mk c s.toNat d.toNat).spread_length w0 w1 (ini ++ [x])
        have hl2 := (AskM.mk c s.toNat d.toNat).spread_length w0 w1 ini
        have hbd : ∀ i, 0 ≤ ati ((AskM.mk c s.toNat d.toNat).spread w0 w1 (ini ++ [x])) i ∧ ati ((AskM.mk c s.toNat d.toNat).spread w0 w1 (ini ++ [x])) i ≤ 1000000 := fun i => by
          have := tally_bound (2 ^ ((AskM.mk c s.toNat d.toNat).masks + (AskM.mk c s.toNat d.toNat).tapes)) (2 ^ (ini ++ [x]).length) ((AskM.mk c s.toNat d.toNat).tells w0 w1 (ini ++ [x])) i
          have hb2 : 2 ^ ((AskM.mk c s.toNat d.toNat).masks + (AskM.mk c s.toNat d.toNat).tapes) ≤ 4096 := pow_le_of (by omega) (show 2 ^ 12 ≤ 4096 by omega)
          unfold AskM.spread; omega
        generalize hNN : (AskM.mk c s.toNat d.toNat).masks + (AskM.mk c s.toNat d.toNat).tapes = N at *
        generalize (AskM.mk c s.toNat d.toNat).spread w0 w1 (ini ++ [x]) = L at *
        generalize (AskM.mk c s.toNat d.toNat).spread w0 w1 ini = K at *
        have hLK : L.length = 2 * K.length := by rw [hl1, hl2, hlen, Nat.pow_succ]; omega
        have hKb : K.length ≤ 100 := by rw [hl2]; exact pow_le_of (show ini.length ≤ 4 by omega) (by omega)
        rw [← hl2] at hlast
        have hN12 : N ≤ 12 := by omega
        have hPw := fun X h r hr => @pa_pow c (by omega) s d m hm ⟨m3, m4⟩ N hN hN12 (.rsl 1 (ints L)) (.rsl 1 (ints K)) X h r hr
        have h2N : 2 ^ N ≤ 4096 := pow_le_of hN12 (by omega)
        generalize 2 ^ N = TT at *
        unfold CodeM.cells at *
        have hz0 : L.length ≤ 1000 := by omega
        by_cases hz2 : ints ini = []
        · rw [hz2] at a2 htk
          simp -implicitDefEqProofs +contextual (disch := omega) [law23_ProbeAll.spec, law23_ProbeAll, hL, hO, a1, a2, hz, htk, ht2, hlen, hlI]
          generalize hr : aloop _ _ _ = r
          obtain ⟨e, fr1, X1, rfl, rfl, rfl, y1, rfl⟩ := hPw _ (by simp [caseBlk]) r hr
          simp -implicitDefEqProofs +contextual (disch := omega)
          generalize hr : aloop _ _ _ = r
          obtain ⟨e, fr2, X2, rfl, rfl, rfl, y2, rfl⟩ := pa_sum L hz0 hbd (.rsl 1 (ints K)) (.int .i64 TT) _ hr
          simp -implicitDefEqProofs +contextual (disch := omega) [hsum, hLK]
          generalize hr : aloop _ _ _ = r
          obtain ⟨e, fr3, X3, rfl, rfl, rfl⟩ := pa_halves L K hLK hKb hbd hlast _ hr
          simp -implicitDefEqProofs +contextual (disch := omega) [lives23]
        · simp -implicitDefEqProofs +contextual (disch := omega) [law23_ProbeAll.spec, law23_ProbeAll, hL, hO, a1, a2, hz, hz2, htk, ht2, hlen, hlI]
          generalize hr : aloop _ _ _ = r
          obtain ⟨e, fr1, X1, rfl, rfl, rfl, y1, rfl⟩ := hPw _ (by simp [caseBlk]) r hr
          simp -implicitDefEqProofs +contextual (disch := omega)
          generalize hr : aloop _ _ _ = r
          obtain ⟨e, fr2, X2, rfl, rfl, rfl, y2, rfl⟩ := pa_sum L hz0 hbd (.rsl 1 (ints K)) (.int .i64 TT) _ hr
          simp -implicitDefEqProofs +contextual (disch := omega) [hsum, hLK]
          generalize hr : aloop _ _ _ = r
          obtain ⟨e, fr3, X3, rfl, rfl, rfl⟩ := pa_halves L K hLK hKb hbd hlast _ hr
          simp -implicitDefEqProofs +contextual (disch := omega) [lives23]
      · rw [if_neg hk] at a1
        generalize (if looksM c s d ini = 0 then (AskM.mk c s.toNat d.toNat).spread w0 w1 ini else []) = v at *
        generalize looksM c s d ini = u at *
        rw [ints0] at a1
        unfold CodeM.cells at *
        by_cases hz2 : ints ini = []
        · rw [hz2] at a2 htk
          simp -implicitDefEqProofs +contextual (disch := omega) [law23_ProbeAll.spec, law23_ProbeAll, hL, lives23, hO, a1, a2, hz, htk, ht2, hlen, hlI, hk]
        · simp -implicitDefEqProofs +contextual (disch := omega) [law23_ProbeAll.spec, law23_ProbeAll, hL, lives23, hO, a1, a2, hz, hz2, htk, ht2, hlen, hlI, hk]
end Go.Abs
end
section
set_option linter.unusedSimpArgs false
set_option linter.unusedVariables false
namespace Go.Abs
noncomputable abbrev plL0 := law23_ProbeLess.l0 law23_light.spec law23_lives.spec ref19_Own.spec probe_Safe.spec
theorem pl_loop (c : CodeM) (h1 : c.ops.length ≤ 100) (h2 : c.outs.length ≤ 100) (s d : Int) (p : BitVec 32) (probes : List Int) (hp : probes.length ≤ 5) (hk : looksM c s d probes = 0) (hsafe : (AskM.mk c s.toNat d.toNat).safe p probes = true) (X : AHeap) (hw : X.WF) (hg : X.get 0 = some (caseBlk c s d)) {r}
    (hr : aloop plL0 (AFr.al [(1, W32 p), (2, .rsl 1 (ints probes)), (3, .ptr 0 5 0 0), (9, .int .i64 0)]) X = r) :
    ∃ e fr' X', r = some (e, fr', X') ∧ (e = .exit 0) := by
  have hO := rOwn_eq c (by omega) (by omega)
  unfold CodeM.cells at hO
  obtain ⟨_, hq2, _, _⟩ := looks_zero hk
  refine run_of hr (aloop_each probes.length (fun k fr H => (∃ y, fr = AFr.al ([(1, W32 p), (2, .rsl 1 (ints probes)), (3, .ptr 0 5 0 0), (9, .int .i64 k)] ++ y)) ∧ H.WF ∧ H.get 0 = some (caseBlk c s d)) _ (fun k hk2 fr H hR => ?_) (fun fr H hR => ?_) ⟨⟨[], rfl⟩, hw, hg⟩)
  · obtain ⟨⟨y, rfl⟩, hw, g0⟩ := hR
    have hk' : (k : Int) < probes.length := by omega
    have hk1 : ((k + 1 : Nat) : Int) = (k : Int) + 1 := by omega
    have b0 := hw _ _ g0
    simp only [caseBlk] at g0 ⊢
    have hsub : ∀ x ∈ probes.take k ++ probes.drop (k + 1), x ∈ probes := fun x hx => by
      rw [List.mem_append] at hx
      rcases hx with hx | hx
      · exact List.mem_of_mem_take hx
      · exact List.mem_of_mem_drop hx
    have hlen : (probes.take k ++ probes.drop (k + 1)).length = probes.length - 1 := by
      rw [List.length_append, List.length_take, List.length_drop]; omega
    have hlk : looksM c s d (probes.take k ++ probes.drop (k + 1)) = 0 := looks_add hk (by omega) (fun x hx => hq2 x (hsub x hx))
    have hpe : probes = probes.take k ++ probes[k] :: probes.drop (k + 1) := by
      rw [← List.drop_eq_getElem_cons hk2, List.take_append_drop]
    have hsf : (AskM.mk c s.toNat d.toNat).safe p (probes.take k ++ probes.drop (k + 1)) = true := by
      rw [hpe] at hsafe
      exact AskM.safe_less _ p _ _ _ hsafe
    have hS := Safe_eq c (by omega) (by omega) s d p (probes.take k ++ probes.drop (k + 1)) (by omega)
    rw [hlk, hsf] at hS
    have hcat : ints (probes.take k ++ probes.drop (k + 1)) = (ints probes).take k ++ (ints probes).drop (k + 1) := by rw [← ints_append, ints_take, ints_drop]
    rw [hcat] at hS
    unfold CodeM.cells at hS
    have htt : ((k : Int) + 1).toNat = k + 1 := by omega
    have hl2 : (ints probes).length = probes.length := by simp
    generalize ints probes = P at *
    have hmin : min k P.length = k := by omega
    have ht1 : (P.drop (k + 1)).take (probes.length - (k + 1)) = P.drop (k + 1) := List.take_of_length_le (by rw [List.length_drop]; omega)
    have ht2 : (P.take k ++ P.drop (k + 1)).take (k + (probes.length - (k + 1))) = P.take k ++ P.drop (k + 1) := List.take_of_length_le (by rw [List.length_append, List.length_take, List.length_drop]; omega)
    by_cases z1 : P.take k = []
    · by_cases z2 : P.drop (k + 1) = []
      · rw [z1, z2, List.append_nil] at hS
        refine ⟨_, _, _, by simp -implicitDefEqProofs +contextual (disch := omega) [law23_ProbeLess.l0, g0, hO, hS, hk', htt, z1, z2, hl2, ht1, ht2, List.take_take]; first | rfl | exact ⟨rfl, rfl⟩ | exact ⟨rfl, rfl, rfl⟩, .inl ⟨rfl, ⟨_, by rw [hk1]; rfl⟩, ?_, ?_⟩⟩
        · (repeat' (first | assumption | with_reducible apply AHeap.WF.push | with_reducible apply AHeap.WF.set | with_reducible apply killAll_wf | exact AHeap.WF.empty)) <;> (simp <;> omega)
        · simp (disch := omega) [g0]
      · rw [z1, List.nil_append] at hS
        refine ⟨_, _, _, by simp -implicitDefEqProofs +contextual (disch := omega) [law23_ProbeLess.l0, g0, hO, hS, hk', htt, z1, z2, hl2, ht1, ht2, List.take_take]; first | rfl | exact ⟨rfl, rfl⟩ | exact ⟨rfl, rfl, rfl⟩, .inl ⟨rfl, ⟨_, by rw [hk1]; rfl⟩, ?_, ?_⟩⟩
        · (repeat' (first | assumption | with_reducible apply AHeap.WF.push | with_reducible apply AHeap.WF.set | with_reducible apply killAll_wf | exact AHeap.WF.empty)) <;> (simp <;> omega)
        · simp (disch := omega) [g0]
    · by_cases z2 : P.drop (k + 1) = []
      · rw [z2, List.append_nil] at hS
        refine ⟨_, _, _, by simp -implicitDefEqProofs +contextual (disch := omega) [law23_ProbeLess.l0, g0, hO, hS, hk', htt, z1, z2, hl2, ht1, ht2, List.take_take]; first | rfl | exact ⟨rfl, rfl⟩ | exact ⟨rfl, rfl, rfl⟩, .inl ⟨rfl, ⟨_, by rw [hk1]; rfl⟩, ?_, ?_⟩⟩
        · (repeat' (first | assumption | with_reducible apply AHeap.WF.push | with_reducible apply AHeap.WF.set | with_reducible apply killAll_wf | exact AHeap.WF.empty)) <;> (simp <;> omega)
        · simp (disch := omega) [g0]
      · refine ⟨_, _, _, by simp -implicitDefEqProofs +contextual (disch := omega) [law23_ProbeLess.l0, g0, hO, hS, hk', htt, z1, z2, hl2, ht1, ht2, List.take_take]; first | rfl | exact ⟨rfl, rfl⟩ | exact ⟨rfl, rfl, rfl⟩, .inl ⟨rfl, ⟨_, by rw [hk1]; rfl⟩, ?_, ?_⟩⟩
        · (repeat' (first | assumption | with_reducible apply AHeap.WF.push | with_reducible apply AHeap.WF.set | with_reducible apply killAll_wf | exact AHeap.WF.empty)) <;> (simp <;> omega)
        · simp (disch := omega) [g0]
  · obtain ⟨⟨y, rfl⟩, hw, g0⟩ := hR
    refine ⟨_, _, _, by simp -implicitDefEqProofs +contextual (disch := omega) [law23_ProbeLess.l0]; first | rfl | exact ⟨rfl, rfl⟩ | exact ⟨rfl, rfl, rfl⟩, by simp, rfl⟩
set_option maxHeartbeats 4000000 in
theorem probeLess_law (c : CodeM) (hl : c.ops.length ≤ 4398046511101) (hb : c.outs.length ≤ 17592186043904) (s d : Int) (p : BitVec 32) (probes : List Int) (hp : probes.length ≤ 17592186043904) :
    law23_ProbeLess.spec [.agg (askCells c s d), W32 p, .rsl 1 (ints probes)] = some (.bool true) := by
  obtain ⟨b, hL, hbb⟩ := light_eq c hl hb s d probes hp
  unfold askCells at hL ⊢
  cases b with
  | false => simp -implicitDefEqProofs +contextual (disch := omega) [law23_ProbeLess.spec, law23_ProbeLess, hL, lives23]
  | true =>
    obtain ⟨h1, h2, h3⟩ := hbb rfl
    by_cases hne : probes = []
    · subst hne
      rw [ints0] at hL ⊢
      simp -implicitDefEqProofs +contextual (disch := omega) [law23_ProbeLess.spec, law23_ProbeLess, hL, lives23]
    · have hz : ¬ ints probes = [] := by simpa [ints] using hne
      have hpl : 0 < probes.length := List.length_pos_iff.2 hne
      have hO := rOwn_eq c (by omega) (by omega)
      have a1 := Safe_eq c (by omega) (by omega) s d p probes (by omega)
      have hloop := fun hk5 hk hs X hw hg r hr => @pl_loop c h1 h2 s d p probes hk5 hk hs X hw hg r hr
      unfold CodeM.cells at *
      by_cases hk : looksM c s d probes = 0
      · obtain ⟨_, _, _, hk5⟩ := looks_zero hk
        cases hsv : (AskM.mk c s.toNat d.toNat).safe p probes with
        | true =>
          rw [hk, hsv] at a1
          simp -implicitDefEqProofs +contextual (disch := omega) [law23_ProbeLess.spec, law23_ProbeLess, hL, hO, a1, hz]
          generalize hr : aloop _ _ _ = r
          obtain ⟨e, fr1, X1, rfl, rfl⟩ := hloop hk5 hk hsv _ (by (repeat' (first | assumption | with_reducible apply AHeap.WF.push | with_reducible apply AHeap.WF.set | with_reducible apply killAll_wf | exact AHeap.WF.empty)) <;> (simp <;> omega)) (by simp [caseBlk]) r hr
          simp -implicitDefEqProofs +contextual (disch := omega) [lives23]
        | false =>
          rw [hk, hsv] at a1
          simp -implicitDefEqProofs +contextual (disch := omega) [law23_ProbeLess.spec, law23_ProbeLess, hL, lives23, hO, a1, hz]
      · rw [decide_eq_false hk] at a1
        generalize looksM c s d probes = w at *
        simp -implicitDefEqProofs +contextual (disch := omega) [law23_ProbeLess.spec, law23_ProbeLess, hL, lives23, hO, a1, hz, hk]
theorem law23_ProbeLess_law (args : List AV) (h : ArgsSh [(true, [.int .i64, .sl 4 32 [.int .i64, .int .i64, .int .i64, .int .u32], .sl 1 8 [.int .i64], .int .i64, .int .i64]), (false, [.int .u32]), (false, [.sl 1 8 [.int .i64]])] args) : law23_ProbeLess.spec args = some (.bool true) := by
  obtain ⟨cs, _, rfl, h1, h⟩ := args_agg h
  obtain ⟨a, _, rfl, h2, h⟩ := args_one h
  obtain ⟨b, _, rfl, h3, h⟩ := args_one h
  obtain rfl := args_nil h
  obtain ⟨c, s, d, rfl, hl, hb, _, _⟩ := sh_case h1
  obtain ⟨p, rfl⟩ := sh_u32 h2.1
  obtain ⟨l, rfl, hp, _⟩ := sh_slint h3.1
  exact probeLess_law c hl hb s d p l (by omega)
theorem law23_ProbeAll_law (args : List AV) (h : ArgsSh [(true, [.int .i64, .sl 4 32 [.int .i64, .int .i64, .int .i64, .int .u32], .sl 1 8 [.int .i64], .int .i64, .int .i64]), (true, [.int .u32, .int .u32]), (false, [.sl 1 8 [.int .i64]])] args) : law23_ProbeAll.spec args = some (.bool true) := by
  obtain ⟨cs, _, rfl, h1, h⟩ := args_agg h
  obtain ⟨ds, _, rfl, h2, h⟩ := args_agg h
  obtain ⟨b, _, rfl, h3, h⟩ := args_one h
  obtain rfl := args_nil h
  obtain ⟨c, s, d, rfl, hl, hb, _, _⟩ := sh_case h1
  obtain ⟨d0, _, rfl, q0, h2⟩ := shs_cons h2
  obtain ⟨d1, rfl, q1⟩ := shs_one h2
  obtain ⟨x, rfl⟩ := sh_u32 q0
  obtain ⟨y, rfl⟩ := sh_u32 q1
  obtain ⟨l, rfl, hp, _⟩ := sh_slint h3.1
  exact probeAll_law c hl hb s d x y l (by omega)
end Go.Abs
end
