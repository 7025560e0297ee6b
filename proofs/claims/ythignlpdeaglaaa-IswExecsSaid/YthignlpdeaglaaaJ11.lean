/-
  The gadgets: the program's Refresh.
-/
import Derived.Test.YthignlpdeaglaaaJ10
set_option linter.unusedSimpArgs false
set_option linter.unusedVariables false
namespace Go.Abs
def resBlk : Blk := ⟨T.ty_api_Code, 3, true, [[.int .i64 0, .nils, .nils]]⟩
def reFx : List (Nat × Blk) := [(0, resBlk), (2, ⟨T.ty_p_isw_maker, 1, false, [[.ptr 1 3 0 0]]⟩)]
def reFr (d k : Nat) (x : List (Nat × AV)) : AFr := AFr.al ([(0, .int .i64 d), (2, .ptr 0 3 0 0), (4, .ptr 2 1 0 0), (19, .int .i64 ((d : Int) + 1)), (20, .int .i64 k)] ++ x)
theorem re_diag (d : Nat) (hd : d ≤ 6) (k : Nat) (hk : k < d + 1) (X : AHeap) (vo vu : AV) (ops : List OpM) (outs : List Int) (h : MkI reFx 1 (d + 1) X vo vu ops outs) (hol : outs.length ≤ 100) (x : List (Nat × AV)) :
    ∃ y X' vu', reL0 (reFr d k x) X = some (.normal, reFr d (k + 1) y, X') ∧ MkI reFx 1 (d + 1) X' vo vu' ops (outs ++ [(k : Int)]) := by
  have hk' : (k : Int) < (d : Int) + 1 := by omega
  have hk1 : ((k + 1 : Nat) : Int) = (k : Int) + 1 := by omega
  have hw := h.wf
  have g2 := (h.fx 2 ⟨T.ty_p_isw_maker, 1, false, [[.ptr 1 3 0 0]]⟩ (by simp [reFx])).2
  obtain ⟨f, gm⟩ := h.gm
  have b1 := hw _ _ gm
  have b2 := hw _ _ g2
  rcases h.ru with ⟨q1, rfl⟩ | ⟨ub, q1, rfl, gu⟩
  · have hz : outs = [] := by simpa [ints] using q1
    subst hz
    refine ⟨?_, ?_, ?_, ?_, ?_⟩
    rotate_left; rotate_left; rotate_left
    · simp -implicitDefEqProofs +contextual (disch := try first | omega | assumption) [isw_Refresh.l0, reFr, hk', hk1, g2, gm, san_wf]
      constructor <;> rfl
    · refine h.newouts (nb := X.next + 1) (outs' := [(k : Int)]) (f' := false) (by omega) ?_ ?_ ?_ ?_
      · (repeat' (first | assumption | with_reducible apply AHeap.WF.push | with_reducible apply AHeap.WF.set)) <;> (simp <;> omega)
      · simp (disch := omega) [ints1]
      · simp (disch := omega) [ints1]
      · intro c c1 c2 c3; simp (disch := omega) [c2]
  · simp only [reFx, List.map_cons, List.map_nil, List.mem_cons, List.not_mem_nil, or_false, not_or] at q1
    obtain ⟨q0, q1, q2⟩ := q1
    have b3 := hw _ _ gu
    refine ⟨?_, ?_, ?_, ?_, ?_⟩
    rotate_left; rotate_left; rotate_left
    · simp -implicitDefEqProofs +contextual (disch := try first | omega | assumption) [isw_Refresh.l0, reFr, hk', hk1, g2, gm, san_wf, gu, q0, q2]
      constructor <;> rfl
    · refine h.newouts (nb := X.next + 1) (outs' := outs ++ [(k : Int)]) (f' := false) (by omega) ?_ ?_ ?_ ?_
      · (repeat' (first | assumption | with_reducible apply AHeap.WF.push | with_reducible apply AHeap.WF.set)) <;> (simp <;> omega)
      · simp (disch := omega) [ints_snoc]
      · simp (disch := omega) [ints_snoc]
      · intro c c1 c2 c3; have c4 := c3 ub (by simp); simp (disch := omega) [c2, c4]
theorem re_diags (d : Nat) (hd : d ≤ 6) (ops : List OpM) : ∀ (m k : Nat) (X : AHeap) (vo vu : AV) (x : List (Nat × AV)), k + m = d + 1 → MkI reFx 1 (d + 1) X vo vu ops ((List.range k).map fun i : Nat => (i : Int)) →
    ∃ fr' X' vu', aloop reL0 (reFr d k x) X = some (.exit 0, fr', X') ∧ fr' 0 = .int .i64 d ∧ fr' 2 = .ptr 0 3 0 0 ∧ fr' 4 = .ptr 2 1 0 0 ∧ MkI reFx 1 (d + 1) X' vo vu' ops ((List.range (d + 1)).map fun i : Nat => (i : Int)) := by
  intro m
  induction m with
  | zero =>
    intro k X vo vu x hk h
    obtain rfl : k = d + 1 := by omega
    refine ⟨_, X, vu, aloop_exit (by simp) (by simp -implicitDefEqProofs +contextual (disch := omega) [isw_Refresh.l0, reFr]; rfl), ?_, ?_, ?_, h⟩ <;> simp
  | succ m ih =>
    intro k X vo vu x hk h
    obtain ⟨y, X1, vu1, s1, s2⟩ := re_diag d hd k (by omega) X vo vu ops _ h (by simp; omega) x
    obtain ⟨fr', X', vu', p1, p2⟩ := ih (k + 1) X1 vo vu1 y (by omega) (by rw [List.range_succ, List.map_append]; exact s2)
    exact ⟨fr', X', vu', (aloop_step s1).trans p1, p2⟩
theorem re_pairs (fixed : List (Nat × Blk)) (h2 : (2, ⟨T.ty_p_isw_maker, 1, false, [[.ptr 1 3 0 0]]⟩) ∈ fixed) (d : Nat) (hd : d ≤ 6) (b : Nat) (hb : (b, ⟨T.ty_int, 1, true, [[.int .i64 d]]⟩) ∈ fixed) (X : AHeap) (vo vu : AV) (s : GadS) (h : MkI fixed 1 (d + 1) X vo vu s.ops s.outs) (m : Nat) (hm : m ≤ 100) (hB : GadB d s m) (fr : AFr) (f4 : fr 4 = .ptr 2 1 0 0) :
    ∃ X' vo', arange (isw_Refresh.C isw_order.spec isw_pairs.spec isw_maker_add.spec isw_pairs_1.spec) (.clo 68 [] [.ptr b 1 0 0]) [38, 39] reE0 fr X = some (.normal, fr, X') ∧
      MkI fixed 1 (d + 1) X' vo' vu ((pairsN d).foldl (gadPair false d) s).ops ((pairsN d).foldl (gadPair false d) s).outs := by
  have hC : (isw_Refresh.C isw_order.spec isw_pairs.spec isw_maker_add.spec isw_pairs_1.spec) 68 = some (.iter isw_pairs_1.spec) := by simp [isw_Refresh.C, Tab.add]
  have hlen := pairsN_len d hd
  have hlt := pairsN_lt d
  have hl : (pairsAV d).all (fun x => x.length == [38, 39].length && x.all AV.isLit) = true := by
    rw [pairsAV_eq, List.all_map, List.all_eq_true]; intro p _; simp [AV.isLit]
  rw [arange_iter hC (pairs_it X b d hd (h.fx _ _ hb).2) hl]
  have hal : (pairsAV d).length = (pairsN d).length := by rw [pairsAV_eq, List.length_map]
  obtain ⟨H', h1, h3⟩ := aeach_go (spec := isw_pairs_1.spec) (caps := [.ptr b 1 0 0]) (all := pairsAV d) (round := fun x H => reE0 (fr.puts [38, 39] x) H) (fr := fr) (H := X)
    (fun k H => ∃ vo, MkI fixed 1 (d + 1) H vo vu (((pairsN d).take k).foldl (gadPair false d) s).ops (((pairsN d).take k).foldl (gadPair false d) s).outs)
    (fun k H ⟨vo, hI⟩ => pairs_it H b d hd (hI.fx _ _ hb).2)
    (fun k x H hx ⟨vo, hI⟩ => by
      have hk : k < (pairsN d).length := by
        have := (List.getElem?_eq_some_iff.1 hx).1; omega
      rw [pairsAV_eq, List.getElem?_map, List.getElem?_eq_getElem hk] at hx
      simp only [Option.map_some, Option.some.injEq] at hx
      subst hx
      obtain ⟨q1, q2⟩ := hlt _ (List.getElem_mem hk)
      have hB2 := GadB.pairs (and := false) ((pairsN d).take k) s m hB
      have hops := hB2.ops
      rw [List.length_take] at hops
      obtain ⟨fr', X', vo', r1, r2⟩ := re_round fixed h2 d hd (pairsN d)[k].1 (pairsN d)[k].2 q1 q2 H vo vu _ hI hB2.len hB2.nn (by omega) fr f4
      refine ⟨fr', X', r1, vo', ?_⟩
      rw [List.take_succ_eq_append_getElem hk, List.foldl_append]
      exact r2) ⟨vo, by simpa using h⟩
  rw [hal, List.take_length] at h3
  obtain ⟨vo', h3⟩ := h3
  exact ⟨H', vo', h1, h3⟩
theorem opRows_all (l : List OpM) : (opRows l).take l.length = opRows l := by rw [← opRows_length l, List.take_length]
theorem gadDiags_fresh (d : Nat) : ∀ n, (List.range n).foldl (gadDiag false d) ⟨[], []⟩ = ⟨[], (List.range n).map fun i : Nat => (i : Int)⟩
  | 0 => rfl
  | n + 1 => by rw [List.range_succ, List.foldl_append, gadDiags_fresh d n]; simp [gadDiag]
def noCode : AV := .agg [.int .i64 0, .rsl 4 [], .rsl 1 []]
set_option maxHeartbeats 4000000 in
theorem Refresh_eq (d : Nat) (hd : d ≤ 6) : isw_Refresh.spec [.int .i64 d] = some (.tup [.agg (gadC false d).cells, .int .i64 0]) := by
  have hO := order_eq d
  rw [decide_eq_true (by omega), decide_eq_true (by omega)] at hO
  simp -implicitDefEqProofs +contextual (disch := omega) [isw_Refresh.spec, isw_Refresh, hO]
  generalize hX : AHeap.set _ _ _ = X
  have hI : MkI reFx 1 (d + 1) X .nils .nils [] ((List.range 0).map fun i : Nat => (i : Int)) := by
    subst hX
    refine ⟨?_, ?_, ⟨true, by simp (disch := omega)⟩, .inl ⟨rfl, rfl⟩, .inl ⟨rfl, rfl⟩⟩
    · (repeat' (first | assumption | with_reducible apply AHeap.WF.push | with_reducible apply AHeap.WF.set | exact AHeap.WF.empty)) <;> (simp <;> omega)
    · intro i x hi
      simp only [reFx, List.mem_cons, List.not_mem_nil, or_false, Prod.mk.injEq] at hi
      rcases hi with ⟨rfl, rfl⟩ | ⟨rfl, rfl⟩ <;> simp [resBlk]
  clear hX
  generalize hr : aloop _ _ _ = r
  obtain ⟨fr', X1, vu1, p1, p2, p3, p4, I1⟩ := re_diags d hd [] (d + 1) 0 X .nils .nils [] (by omega) hI
  have hr2 : r = some (.exit 0, fr', X1) := hr.symm.trans p1
  subst hr2
  have hP := pairs_run X1 d
  simp -implicitDefEqProofs +contextual (disch := omega) [p2, p3, p4, hP]
  have I2 := I1.push ⟨T.ty_int, 1, true, [[.int .i64 d]]⟩
  have hB0 : GadB d ⟨[], (List.range (d + 1)).map fun i : Nat => (i : Int)⟩ 0 := ⟨by simp, by intro x hx; simp at hx; obtain ⟨a, _, rfl⟩ := hx; omega, by simp⟩
  obtain ⟨X2, vo2, e2, I3⟩ := re_pairs _ (by simp [reFx]) d hd X1.next (by simp) _ .nils vu1 ⟨[], (List.range (d + 1)).map fun i : Nat => (i : Int)⟩ I2 0 (by omega) hB0 (AFr.al [(2, .ptr 0 3 0 0), (4, .ptr 2 1 0 0), (37, .clo 68 [] [.ptr X1.next 1 0 0])]) (by simp)
  rw [e2]
  have hg : gadS false d = (pairsN d).foldl (gadPair false d) ⟨[], (List.range (d + 1)).map fun i : Nat => (i : Int)⟩ := by unfold gadS; rw [gadDiags_fresh]
  have hB2 := GadB.pairs (and := false) (pairsN d) _ _ hB0
  have hc : (gadC false d).cells = [.int .i64 (d + 1 : Nat), .rsl 4 (opRows (gadS false d).ops), .rsl 1 (ints (gadS false d).outs)] := rfl
  rw [← hg] at I3 hB2
  rw [hc]
  generalize gadS false d = s at *
  have ho := hB2.len
  have hn := pairsN_len d hd
  have hp := hB2.ops
  obtain ⟨f, gm⟩ := I3.gm
  have g0 := (I3.fx 0 resBlk (by simp [reFx])).2
  have g2 := (I3.fx 2 ⟨T.ty_p_isw_maker, 1, false, [[.ptr 1 3 0 0]]⟩ (by simp [reFx])).2
  obtain ⟨ub, rfl, gu, u1, u2⟩ := I3.out (by omega)
  have u0 := u2 0 resBlk (by simp [reFx])
  simp only [resBlk] at g0
  rcases I3.ro with ⟨q1, rfl⟩ | ⟨ob, q1, rfl, go⟩
  · have hz : s.ops = [] := by simpa [opRows] using q1
    simp -implicitDefEqProofs +contextual (disch := omega) [gm, g0, g2, gu, u0, hz, opRows]
  · have q0 : ob ≠ 0 := fun e => q1 (by simp [e, reFx])
    simp -implicitDefEqProofs +contextual (disch := omega) [gm, g0, g2, gu, u0, go, q0, opRows_all]
theorem Refresh_no (d : Int) (hd : ¬ (0 ≤ d ∧ d ≤ 6)) : isw_Refresh.spec [.int .i64 d] = some (.tup [noCode, .int .i64 1]) := by
  have hO := order_eq d
  rw [← Bool.decide_and, decide_eq_false hd] at hO
  simp -implicitDefEqProofs +contextual (disch := omega) [isw_Refresh.spec, isw_Refresh, hO, noCode]
end Go.Abs
