/-
  The gadgets: the program's And.
-/
import Derived.Test.YthignlpdeaglaaaJ11
set_option linter.unusedSimpArgs false
set_option linter.unusedVariables false
namespace Go.Abs
def anFx (d : Nat) : List (Nat × Blk) := [(0, ⟨T.ty_int, 1, true, [[.int .i64 d]]⟩), (1, resBlk), (3, ⟨T.ty_p_isw_maker, 1, false, [[.ptr 2 3 0 0]]⟩), (4, clo51)]
def anFr (d k : Nat) (x : List (Nat × AV)) : AFr := AFr.al ([(1, .ptr 0 1 0 0), (2, .ptr 1 3 0 0), (4, .ptr 3 1 0 0), (5, .ptr 4 1 0 0), (24, .int .i64 ((d : Int) + 1)), (25, .int .i64 k)] ++ x)
theorem an_pairs (fixed : List (Nat × Blk)) (d : Nat) (hd : d ≤ 6) (h0 : (0, ⟨T.ty_int, 1, true, [[.int .i64 d]]⟩) ∈ fixed) (h3 : (3, ⟨T.ty_p_isw_maker, 1, false, [[.ptr 2 3 0 0]]⟩) ∈ fixed) (h4 : (4, clo51) ∈ fixed) (b : Nat) (hb : (b, ⟨T.ty_int, 1, true, [[.int .i64 d]]⟩) ∈ fixed) (X : AHeap) (vo vu : AV) (s : GadS) (h : MkI fixed 2 (2 * (d + 1)) X vo vu s.ops s.outs) (m : Nat) (hm : m ≤ 100) (hB : GadB d s m) (fr : AFr) (f4 : fr 4 = .ptr 3 1 0 0) (f5 : fr 5 = .ptr 4 1 0 0) :
    ∃ X' vo', arange (isw_And.C isw_order.spec isw_maker_add.spec isw_pairs.spec isw_pairs_1.spec isw_And_1.spec) (.clo 68 [] [.ptr b 1 0 0]) [49, 50] anE0 fr X = some (.normal, fr, X') ∧
      MkI fixed 2 (2 * (d + 1)) X' vo' vu ((pairsN d).foldl (gadPair true d) s).ops ((pairsN d).foldl (gadPair true d) s).outs := by
  have hC : (isw_And.C isw_order.spec isw_maker_add.spec isw_pairs.spec isw_pairs_1.spec isw_And_1.spec) 68 = some (.iter isw_pairs_1.spec) := by simp [isw_And.C, Tab.add]
  have hlen := pairsN_len d hd
  have hlt := pairsN_lt d
  have hl : (pairsAV d).all (fun x => x.length == [49, 50].length && x.all AV.isLit) = true := by
    rw [pairsAV_eq, List.all_map, List.all_eq_true]; intro p _; simp [AV.isLit]
  rw [arange_iter hC (pairs_it X b d hd (h.fx _ _ hb).2) hl]
  have hal : (pairsAV d).length = (pairsN d).length := by rw [pairsAV_eq, List.length_map]
  obtain ⟨H', h1, h3'⟩ := aeach_go (spec := isw_pairs_1.spec) (caps := [.ptr b 1 0 0]) (all := pairsAV d) (round := fun x H => anE0 (fr.puts [49, 50] x) H) (fr := fr) (H := X)
    (fun k H => ∃ vo, MkI fixed 2 (2 * (d + 1)) H vo vu (((pairsN d).take k).foldl (gadPair true d) s).ops (((pairsN d).take k).foldl (gadPair true d) s).outs)
    (fun k H ⟨vo, hI⟩ => pairs_it H b d hd (hI.fx _ _ hb).2)
    (fun k x H hx ⟨vo, hI⟩ => by
      have hk : k < (pairsN d).length := by
        have := (List.getElem?_eq_some_iff.1 hx).1; omega
      rw [pairsAV_eq, List.getElem?_map, List.getElem?_eq_getElem hk] at hx
      simp only [Option.map_some, Option.some.injEq] at hx
      subst hx
      obtain ⟨q1, q2⟩ := hlt _ (List.getElem_mem hk)
      have hB2 := GadB.pairs (and := true) ((pairsN d).take k) s m hB
      have hops := hB2.ops
      rw [List.length_take] at hops
      obtain ⟨fr', X', vo', r1, r2⟩ := an_round fixed d h0 h3 h4 hd (pairsN d)[k].1 (pairsN d)[k].2 q1 q2 H vo vu _ hI hB2.len hB2.nn (by omega) fr f4 f5
      refine ⟨fr', X', r1, vo', ?_⟩
      rw [List.take_succ_eq_append_getElem hk, List.foldl_append]
      exact r2) ⟨vo, by simpa using h⟩
  rw [hal, List.take_length] at h3'
  obtain ⟨vo', h3'⟩ := h3'
  exact ⟨H', vo', h1, h3'⟩
theorem an_diag (d : Nat) (hd : d ≤ 6) (k : Nat) (hk : k < d + 1) (X : AHeap) (vo vu : AV) (ops : List OpM) (outs : List Int) (h : MkI (anFx d) 2 (2 * (d + 1)) X vo vu ops outs) (hops : ops.length ≤ 100) (hol : outs.length ≤ 100) (x : List (Nat × AV)) :
    ∃ y X' vo' vu', anL0 (anFr d k x) X = some (.normal, anFr d (k + 1) y, X') ∧ MkI (anFx d) 2 (2 * (d + 1)) X' vo' vu' (ops ++ [opM 1 k (d + 1 + k)]) (outs ++ [((2 * (d + 1) + ops.length : Nat) : Int)]) := by
  have hk' : (k : Int) < (d : Int) + 1 := by omega
  have hk1 : ((k + 1 : Nat) : Int) = (k : Int) + 1 := by omega
  obtain ⟨N, hN⟩ : ∃ N : Int, ((2 * (d + 1) : Nat) : Int) + ops.length = N := ⟨_, rfl⟩
  have hN' : ((2 * (d + 1) + ops.length : Nat) : Int) = N := by omega
  obtain ⟨B, hB⟩ : ∃ x : Int, x = (d : Int) + 1 + k := ⟨_, rfl⟩
  have hop : opM 1 k (d + 1 + k) = addO 1 [(k : Int), B] := by rw [addO2, hB]; simp [opM]
  rw [hN', hop]
  have g3 := (h.fx 3 ⟨T.ty_p_isw_maker, 1, false, [[.ptr 2 3 0 0]]⟩ (by simp [anFx])).2
  have g0 := (h.fx 0 ⟨T.ty_int, 1, true, [[.int .i64 d]]⟩ (by simp [anFx])).2
  have g4 := (h.fx 4 clo51 (by simp [anFx])).2
  obtain ⟨f, gm⟩ := h.gm
  have w := h.wf
  have c0 := and1_eq X w d hd k (by omega) B hB g0
  have T1 := h.tmp ⟨T.ty_int, 1, true, ints [(k : Int), B]⟩
  obtain ⟨X1, o1, e1, I1, n1⟩ := T1.add (by omega) (by omega) N hN 1 [(k : Int), B] (by simp)
  simp only [ints2, next_killAll, AHeap.next_push] at e1 n1
  have g31 := (I1.fx 3 ⟨T.ty_p_isw_maker, 1, false, [[.ptr 2 3 0 0]]⟩ (by simp [anFx])).2
  have g01 := (I1.fx 0 ⟨T.ty_int, 1, true, [[.int .i64 d]]⟩ (by simp [anFx])).2
  have g41 := (I1.fx 4 clo51 (by simp [anFx])).2
  obtain ⟨f1, gm1⟩ := I1.gm
  have w1 := I1.wf
  simp only [clo51] at g4 g41
  have b1 := w _ _ gm
  have b2 := w _ _ g3
  have b3 := w _ _ g4
  rcases I1.ru with ⟨q1, rfl⟩ | ⟨ub, q1, rfl, gu⟩
  · have hz : outs = [] := by simpa [ints] using q1
    subst hz
    refine ⟨?_, ?_, ?_, ?_, ?_, ?_⟩
    rotate_left; rotate_left; rotate_left; rotate_left
    · simp -implicitDefEqProofs +contextual (disch := try first | omega | assumption | (simp only [AHeap.next_push, AHeap.next_set, next_killAll]; omega)) [isw_And.l0, anFr, acallClo, acallR, and_C, hk', hk1, g3, g4, g0, gm, san_wf, c0, e1, g31, g41, gm1]
      constructor <;> rfl
    · refine I1.newouts (nb := X1.next + 1) (outs' := [N]) (f' := false) (by omega) ?_ ?_ ?_ ?_
      · (repeat' (first | assumption | with_reducible apply AHeap.WF.push | with_reducible apply AHeap.WF.set)) <;> (simp <;> omega)
      · simp (disch := omega) [ints1]
      · simp (disch := omega) [ints1]
      · intro c c1 c2 c3; simp (disch := omega) [c2]
  · simp only [anFx, List.map_cons, List.map_nil, List.mem_cons, List.not_mem_nil, or_false, not_or] at q1
    obtain ⟨q2, q0, q1, q3, q4⟩ := q1
    have b4 := w1 _ _ gu
    have gu0 : X.get ub = some ⟨T.ty_int, 1, true, ints outs⟩ := by
      rcases h.ru with ⟨_, p2⟩ | ⟨ub', _, p2, p3⟩
      · cases p2
      · cases p2; exact p3
    refine ⟨?_, ?_, ?_, ?_, ?_, ?_⟩
    rotate_left; rotate_left; rotate_left; rotate_left
    · simp -implicitDefEqProofs +contextual (disch := try first | omega | assumption | (simp only [AHeap.next_push, AHeap.next_set, next_killAll]; omega)) [isw_And.l0, anFr, acallClo, acallR, and_C, hk', hk1, g3, g4, g0, gm, san_wf, c0, e1, g31, g41, gm1, gu, gu0, q0, q1, q2, q3, q4]
      constructor <;> rfl
    · refine I1.newouts (nb := X1.next + 1) (outs' := outs ++ [N]) (f' := false) (by omega) ?_ ?_ ?_ ?_
      · (repeat' (first | assumption | with_reducible apply AHeap.WF.push | with_reducible apply AHeap.WF.set)) <;> (simp <;> omega)
      · simp (disch := omega) [ints_snoc]
      · simp (disch := omega) [ints_snoc]
      · intro c c1 c2 c3; have c4 := c3 ub (by simp); simp (disch := omega) [c2, c4]
def anSt (d n : Nat) : GadS := (List.range n).foldl (gadDiag true d) ⟨[], []⟩
theorem anSt_succ (d n : Nat) : anSt d (n + 1) = ⟨(anSt d n).ops ++ [opM 1 n (d + 1 + n)], (anSt d n).outs ++ [((2 * (d + 1) + (anSt d n).ops.length : Nat) : Int)]⟩ := by
  unfold anSt; rw [List.range_succ, List.foldl_append]; simp [gadDiag]
theorem anSt_len (d : Nat) : ∀ n, (anSt d n).ops.length = n ∧ (anSt d n).outs.length = n ∧ ∀ x ∈ (anSt d n).outs, 0 ≤ x
  | 0 => ⟨rfl, rfl, by simp [anSt]⟩
  | n + 1 => by
    obtain ⟨h1, h2, h3⟩ := anSt_len d n
    rw [anSt_succ]
    refine ⟨by simp [h1], by simp [h2], fun x hx => ?_⟩
    simp only [List.mem_append, List.mem_singleton] at hx
    rcases hx with hx | rfl
    · exact h3 x hx
    · omega
theorem an_diags (d : Nat) (hd : d ≤ 6) : ∀ (m k : Nat) (X : AHeap) (vo vu : AV) (x : List (Nat × AV)), k + m = d + 1 → MkI (anFx d) 2 (2 * (d + 1)) X vo vu (anSt d k).ops (anSt d k).outs →
    ∃ fr' X' vo' vu', aloop anL0 (anFr d k x) X = some (.exit 0, fr', X') ∧ fr' 1 = .ptr 0 1 0 0 ∧ fr' 2 = .ptr 1 3 0 0 ∧ fr' 4 = .ptr 3 1 0 0 ∧ fr' 5 = .ptr 4 1 0 0 ∧ MkI (anFx d) 2 (2 * (d + 1)) X' vo' vu' (anSt d (d + 1)).ops (anSt d (d + 1)).outs := by
  intro m
  induction m with
  | zero =>
    intro k X vo vu x hk h
    obtain rfl : k = d + 1 := by omega
    refine ⟨_, X, vo, vu, aloop_exit (by simp) (by simp -implicitDefEqProofs +contextual (disch := omega) [isw_And.l0, anFr]; rfl), ?_, ?_, ?_, ?_, h⟩ <;> simp
  | succ m ih =>
    intro k X vo vu x hk h
    obtain ⟨l1, l2, l3⟩ := anSt_len d k
    obtain ⟨y, X1, vo1, vu1, s1, s2⟩ := an_diag d hd k (by omega) X vo vu _ _ h (by omega) (by omega) x
    obtain ⟨fr', X', vo', vu', p1, p2⟩ := ih (k + 1) X1 vo1 vu1 y (by omega) (by rw [anSt_succ]; exact s2)
    exact ⟨fr', X', vo', vu', (aloop_step s1).trans p1, p2⟩
theorem bxc_nilf (e : TypeId) (H : AHeap) : abox e .nilf H = some (.ptr H.next 1 0 0, H.push { e := e, sz := 1, flat := true, rows := [[.nilf]] }) := box_cell _ _ _ rfl
set_option maxHeartbeats 4000000 in
theorem And_eq (d : Nat) (hd : d ≤ 6) : isw_And.spec [.int .i64 d] = some (.tup [.agg (gadC true d).cells, .int .i64 0]) := by
  have hO := order_eq d
  rw [decide_eq_true (by omega), decide_eq_true (by omega)] at hO
  simp -implicitDefEqProofs +contextual (disch := omega) [isw_And.spec, isw_And, hO, bxc_nilf]
  generalize hX : AHeap.set _ 4 _ = X
  have hI : MkI (anFx d) 2 (2 * (d + 1)) X .nils .nils (anSt d 0).ops (anSt d 0).outs := by
    subst hX
    refine ⟨?_, ?_, ⟨true, by simp (disch := omega)⟩, .inl ⟨rfl, rfl⟩, .inl ⟨rfl, rfl⟩⟩
    · (repeat' (first | assumption | with_reducible apply AHeap.WF.push | with_reducible apply AHeap.WF.set | exact AHeap.WF.empty)) <;> (simp <;> omega)
    · intro i x hi
      simp only [anFx, List.mem_cons, List.not_mem_nil, or_false, Prod.mk.injEq] at hi
      rcases hi with ⟨rfl, rfl⟩ | ⟨rfl, rfl⟩ | ⟨rfl, rfl⟩ | ⟨rfl, rfl⟩ <;> simp [resBlk, clo51]
  clear hX
  generalize hr : aloop _ _ _ = r
  obtain ⟨fr', X1, vo1, vu1, p1, p2, p3, p4, p5, I1⟩ := an_diags d hd (d + 1) 0 X .nils .nils [] (by omega) hI
  have hr2 : r = some (.exit 0, fr', X1) := hr.symm.trans p1
  subst hr2
  have hP := pairs_run X1 d
  have hg0 := (I1.fx 0 ⟨T.ty_int, 1, true, [[.int .i64 d]]⟩ (by simp [anFx])).2
  simp -implicitDefEqProofs +contextual (disch := omega) [p2, p3, p4, p5, hP, hg0]
  have I2 := I1.push ⟨T.ty_int, 1, true, [[.int .i64 d]]⟩
  obtain ⟨l1, l2, l3⟩ := anSt_len d (d + 1)
  have hB0 : GadB d (anSt d (d + 1)) 7 := ⟨l2, l3, by omega⟩
  obtain ⟨X2, vo2, e2, I3⟩ := an_pairs _ d hd (by simp [anFx]) (by simp [anFx]) (by simp [anFx]) X1.next (by simp) _ vo1 vu1 (anSt d (d + 1)) I2 7 (by omega) hB0 (AFr.al [(2, .ptr 1 3 0 0), (4, .ptr 3 1 0 0), (5, .ptr 4 1 0 0), (48, .clo 68 [] [.ptr X1.next 1 0 0])]) (by simp) (by simp)
  rw [e2]
  have hg : gadS true d = (pairsN d).foldl (gadPair true d) (anSt d (d + 1)) := rfl
  have hB2 := GadB.pairs (and := true) (pairsN d) _ _ hB0
  have hc : (gadC true d).cells = [.int .i64 (2 * (d + 1) : Nat), .rsl 4 (opRows (gadS true d).ops), .rsl 1 (ints (gadS true d).outs)] := rfl
  rw [← hg] at I3 hB2
  rw [hc]
  generalize gadS true d = s at *
  have ho := hB2.len
  have hn := pairsN_len d hd
  have hp := hB2.ops
  obtain ⟨f, gm⟩ := I3.gm
  have g1 := (I3.fx 1 resBlk (by simp [anFx])).2
  have g3 := (I3.fx 3 ⟨T.ty_p_isw_maker, 1, false, [[.ptr 2 3 0 0]]⟩ (by simp [anFx])).2
  obtain ⟨ub, rfl, gu, u1, u2⟩ := I3.out (by omega)
  have u0 := u2 1 resBlk (by simp [anFx])
  simp only [resBlk] at g1
  rcases I3.ro with ⟨q1, rfl⟩ | ⟨ob, q1, rfl, go⟩
  · have hz : s.ops = [] := by simpa [opRows] using q1
    simp -implicitDefEqProofs +contextual (disch := omega) [gm, g1, g3, gu, u0, hz, opRows]
  · have q0 : ob ≠ 1 := fun e => q1 (by simp [e, anFx])
    simp -implicitDefEqProofs +contextual (disch := omega) [gm, g1, g3, gu, u0, go, q0, opRows_all]
theorem And_no (d : Int) (hd : ¬ (0 ≤ d ∧ d ≤ 6)) : isw_And.spec [.int .i64 d] = some (.tup [noCode, .int .i64 1]) := by
  have hO := order_eq d
  rw [← Bool.decide_and, decide_eq_false hd] at hO
  simp -implicitDefEqProofs +contextual (disch := omega) [isw_And.spec, isw_And, hO, noCode]
end Go.Abs
