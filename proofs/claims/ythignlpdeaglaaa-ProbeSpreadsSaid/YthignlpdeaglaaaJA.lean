import Derived.Test.YthignlpdeaglaaaQI
import Derived.Test.YthignlpdeaglaaaIxF
import Derived.Test.YthignlpdeaglaaaLoF
section
set_option linter.unusedSimpArgs false
set_option linter.unusedVariables false
namespace Go.Abs
theorem takes_eq (k : Int) : isw_takes.spec [.int .i64 k] = some (.int .i64 (takesM k)) := by
  by_cases h1 : k = 1
  · subst h1; simp -implicitDefEqProofs +contextual (disch := omega) [isw_takes.spec, isw_takes, takesM]
  by_cases h2 : k = 2
  · subst h2; simp -implicitDefEqProofs +contextual (disch := omega) [isw_takes.spec, isw_takes, takesM]
  by_cases h3 : k = 3
  · subst h3; simp -implicitDefEqProofs +contextual (disch := omega) [isw_takes.spec, isw_takes, takesM]
  by_cases h4 : k = 4
  · subst h4; simp -implicitDefEqProofs +contextual (disch := omega) [isw_takes.spec, isw_takes, takesM]
  by_cases h5 : k = 5
  · subst h5; simp -implicitDefEqProofs +contextual (disch := omega) [isw_takes.spec, isw_takes, takesM]
  by_cases h6 : k = 6
  · subst h6; simp -implicitDefEqProofs +contextual (disch := omega) [isw_takes.spec, isw_takes, takesM]
  by_cases h8 : k = 8
  · subst h8; simp -implicitDefEqProofs +contextual (disch := omega) [isw_takes.spec, isw_takes, takesM]
  have e : takesM k = 0 := by
    unfold takesM
    rw [if_neg (by omega), if_neg (by omega)]
  rw [e]
  simp -implicitDefEqProofs +contextual (disch := omega) [isw_takes.spec, isw_takes, h1, h2, h3, h4, h5, h6, h8]
theorem number_eq (o : OpM) : isw_number.spec [.agg o.cells] = some (.bool (numberM o)) := by
  obtain ⟨k, a, b, n⟩ := o
  unfold OpM.cells numberM
  dsimp only
  by_cases h7 : k = 7
  · subst h7; simp -implicitDefEqProofs +contextual (disch := omega) [isw_number.spec, isw_number]
  by_cases h4 : k = 4
  · subst h4; simp -implicitDefEqProofs +contextual (disch := omega) [isw_number.spec, isw_number, BitVec.lt_def]
  by_cases h5 : k = 5
  · subst h5; simp -implicitDefEqProofs +contextual (disch := omega) [isw_number.spec, isw_number, BitVec.lt_def]
  by_cases h6 : k = 6
  · subst h6; simp -implicitDefEqProofs +contextual (disch := omega) [isw_number.spec, isw_number, BitVec.lt_def]
  simp -implicitDefEqProofs +contextual (disch := omega) [isw_number.spec, isw_number, h4, h5, h6, h7]
  rfl
theorem wire_eq (x w : Int) (b : Bool) : isw_wire.spec [.int .i64 x, .int .i64 w, .bool b] = some (.bool (wireM x w b)) := by
  unfold wireM
  cases b with
  | true =>
    by_cases h : 0 ≤ x
    · simp -implicitDefEqProofs +contextual (disch := omega) [isw_wire.spec, isw_wire, h]
    · simp -implicitDefEqProofs +contextual (disch := omega) [isw_wire.spec, isw_wire, h]
  | false =>
    simp -implicitDefEqProofs +contextual (disch := omega) [isw_wire.spec, isw_wire]
    rfl
def codeBlk (c : CodeM) : Blk := ⟨T.ty_api_Code, 3, true, [c.cells]⟩
theorem opsOk_cons (o : OpM) (l : List OpM) (w : Int) : opsOk (o :: l) w = (o.ok w && opsOk l (w + 1)) := rfl
def canFr (c : CodeM) (k : Nat) (x : List (Nat × AV)) : AFr := AFr.al ([(1, .ptr 0 3 0 0), (23, .rsl 4 (opRows c.ops)), (24, .int .i64 c.ops.length), (25, .int .i64 k)] ++ x)
theorem can_loop (c : CodeM) (hl : c.ops.length ≤ 60000) (hin : 0 ≤ c.inN ∧ c.inN ≤ 4000) : ∀ (d k : Nat) (X : AHeap) (x : List (Nat × AV)), k + d = c.ops.length → X.WF → X.get 0 = some (codeBlk c) →
    ∃ fr' X', aloop (isw_can.l0 isw_takes.spec isw_number.spec isw_wire.spec) (canFr c k x) X = some (if opsOk (c.ops.drop k) (c.inN + k) = true then .exit 0 else .ret, fr', X') ∧
      (opsOk (c.ops.drop k) (c.inN + k) = true → fr' 1 = .ptr 0 3 0 0) ∧ (opsOk (c.ops.drop k) (c.inN + k) = false → fr' 2 = .bool false) ∧ X'.WF ∧ X'.get 0 = some (codeBlk c) := by
  intro d
  induction d with
  | zero =>
    intro k X x h hw hg
    obtain rfl : k = c.ops.length := by omega
    rw [List.drop_length]
    refine ⟨_, _, aloop_exit (by simp [opsOk]) (by simp -implicitDefEqProofs +contextual (disch := omega) [isw_can.l0, canFr, opsOk]; exact rfl), ?_, ?_, hw, hg⟩
    · intro _; simp
    · intro q; simp [opsOk] at q
  | succ d ih =>
    intro k X x h hw hg
    have hk : k < c.ops.length := by omega
    have hk' : (k : Int) < c.ops.length := by omega
    have hk1 : ((k + 1 : Nat) : Int) = (k : Int) + 1 := by omega
    have hrow := opRows_get c.ops k hk
    have hdr : c.ops.drop k = c.ops[k] :: c.ops.drop (k + 1) := List.drop_eq_getElem_cons hk
    have hne := hw _ _ hg
    rw [hdr, opsOk_cons]
    have hT := takes_eq c.ops[k].k
    have hN := number_eq c.ops[k]
    have hW := wire_eq
    generalize c.ops[k] = o at *
    obtain ⟨ok, oa, ob, on⟩ := o
    simp only [OpM.cells] at hN hrow hT
    have hWa := wire_eq oa (c.inN + k) (decide (0 < takesM ok))
    have hWb := wire_eq ob (c.inN + k) (decide (1 < takesM ok))
    have hok : OpM.ok ⟨ok, oa, ob, on⟩ (c.inN + k) = (decide (0 ≤ ok) && decide (ok < 9) && numberM ⟨ok, oa, ob, on⟩ && wireM oa (c.inN + k) (decide (0 < takesM ok)) && wireM ob (c.inN + k) (decide (1 < takesM ok))) := rfl
    rw [hok]
    generalize numberM ⟨ok, oa, ob, on⟩ = nb at *
    generalize wireM oa (c.inN + k) (decide (0 < takesM ok)) = wa at *
    generalize wireM ob (c.inN + k) (decide (1 < takesM ok)) = wb at *
    have hcb : codeBlk c = ⟨T.ty_api_Code, 3, true, [[.int .i64 c.inN, .rsl 4 (opRows c.ops), .rsl 1 (ints c.outs)]]⟩ := rfl
    have e0 : c.inN + (k : Int) + 1 = c.inN + ((k + 1 : Nat) : Int) := by omega
    by_cases g1 : 0 ≤ ok
    · have g1' : ¬ ok < 0 := by omega
      by_cases g2 : ok < 9
      · have g2' : ¬ 9 ≤ ok := by omega
        cases nb with
        | true =>
          cases wa with
          | true =>
            cases wb with
            | true =>
              have st : ∃ X1 y, isw_can.l0 isw_takes.spec isw_number.spec isw_wire.spec (canFr c k x) X = some (.normal, canFr c (k + 1) y, X1) ∧ X1.WF ∧ X1.get 0 = some (codeBlk c) := by
                refine ⟨?_, ?_, ?_, ?_, ?_⟩
                rotate_left; rotate_left
                · simp -implicitDefEqProofs +contextual (disch := try first | omega | assumption) [isw_can.l0, canFr, hg, hcb, hrow, hk', hk1, hT, hN, hWa, hWb, g1', g2']
                  constructor <;> rfl
                · (repeat' (first | assumption | with_reducible apply AHeap.WF.push | with_reducible apply AHeap.WF.set)) <;> (simp <;> omega)
                · simp (disch := omega) [hg]
              obtain ⟨X1, y, s1, s2, s3⟩ := st
              obtain ⟨fr', X', p1, p2, p3, p4, p5⟩ := ih (k + 1) X1 y (by omega) s2 s3
              simp only [decide_eq_true g1, decide_eq_true g2, Bool.true_and, e0]
              exact ⟨fr', X', (aloop_step s1).trans p1, p2, p3, p4, p5⟩
            | false =>
              have st : ∃ fr1 X1, isw_can.l0 isw_takes.spec isw_number.spec isw_wire.spec (canFr c k x) X = some (.ret, fr1, X1) ∧ fr1 2 = .bool false ∧ X1.WF ∧ X1.get 0 = some (codeBlk c) := by
                refine ⟨?_, ?_, ?_, ?_, ?_, ?_⟩
                rotate_left; rotate_left
                · simp -implicitDefEqProofs +contextual (disch := try first | omega | assumption) [isw_can.l0, canFr, hg, hcb, hrow, hk', hk1, hT, hN, hWa, hWb, g1', g2', g1, g2]
                  constructor <;> rfl
                · simp
                · (repeat' (first | assumption | with_reducible apply AHeap.WF.push | with_reducible apply AHeap.WF.set)) <;> (simp <;> omega)
                · simp (disch := omega) [hg]
              obtain ⟨fr1, X1, s1, s2, s3, s4⟩ := st
              exact ⟨fr1, X1, by rw [aloop_exit (by simp) s1]; simp [g1', g2', g1, g2], by simp [g1', g2', g1, g2], fun _ => s2, s3, s4⟩
          | false =>
            have st : ∃ fr1 X1, isw_can.l0 isw_takes.spec isw_number.spec isw_wire.spec (canFr c k x) X = some (.ret, fr1, X1) ∧ fr1 2 = .bool false ∧ X1.WF ∧ X1.get 0 = some (codeBlk c) := by
              refine ⟨?_, ?_, ?_, ?_, ?_, ?_⟩
              rotate_left; rotate_left
              · simp -implicitDefEqProofs +contextual (disch := try first | omega | assumption) [isw_can.l0, canFr, hg, hcb, hrow, hk', hk1, hT, hN, hWa, hWb, g1', g2', g1, g2]
                constructor <;> rfl
              · simp
              · (repeat' (first | assumption | with_reducible apply AHeap.WF.push | with_reducible apply AHeap.WF.set)) <;> (simp <;> omega)
              · simp (disch := omega) [hg]
            obtain ⟨fr1, X1, s1, s2, s3, s4⟩ := st
            exact ⟨fr1, X1, by rw [aloop_exit (by simp) s1]; simp [g1', g2', g1, g2], by simp [g1', g2', g1, g2], fun _ => s2, s3, s4⟩
        | false =>
          have st : ∃ fr1 X1, isw_can.l0 isw_takes.spec isw_number.spec isw_wire.spec (canFr c k x) X = some (.ret, fr1, X1) ∧ fr1 2 = .bool false ∧ X1.WF ∧ X1.get 0 = some (codeBlk c) := by
            refine ⟨?_, ?_, ?_, ?_, ?_, ?_⟩
            rotate_left; rotate_left
            · simp -implicitDefEqProofs +contextual (disch := try first | omega | assumption) [isw_can.l0, canFr, hg, hcb, hrow, hk', hk1, hT, hN, hWa, hWb, g1', g2', g1, g2]
              constructor <;> rfl
            · simp
            · (repeat' (first | assumption | with_reducible apply AHeap.WF.push | with_reducible apply AHeap.WF.set)) <;> (simp <;> omega)
            · simp (disch := omega) [hg]
          obtain ⟨fr1, X1, s1, s2, s3, s4⟩ := st
          exact ⟨fr1, X1, by rw [aloop_exit (by simp) s1]; simp [g1', g2', g1, g2], by simp [g1', g2', g1, g2], fun _ => s2, s3, s4⟩
      · have g2' : 9 ≤ ok := by omega
        have st : ∃ fr1 X1, isw_can.l0 isw_takes.spec isw_number.spec isw_wire.spec (canFr c k x) X = some (.ret, fr1, X1) ∧ fr1 2 = .bool false ∧ X1.WF ∧ X1.get 0 = some (codeBlk c) := by
          refine ⟨?_, ?_, ?_, ?_, ?_, ?_⟩
          rotate_left; rotate_left
          · simp -implicitDefEqProofs +contextual (disch := try first | omega | assumption) [isw_can.l0, canFr, hg, hcb, hrow, hk', hk1, hT, hN, hWa, hWb, g1', g2', g1, g2]
            constructor <;> rfl
          · simp
          · (repeat' (first | assumption | with_reducible apply AHeap.WF.push | with_reducible apply AHeap.WF.set)) <;> (simp <;> omega)
          · simp (disch := omega) [hg]
        obtain ⟨fr1, X1, s1, s2, s3, s4⟩ := st
        exact ⟨fr1, X1, by rw [aloop_exit (by simp) s1]; simp [g1', g2', g1, g2], by simp [g1', g2', g1, g2], fun _ => s2, s3, s4⟩
    · have g1' : ok < 0 := by omega
      have st : ∃ fr1 X1, isw_can.l0 isw_takes.spec isw_number.spec isw_wire.spec (canFr c k x) X = some (.ret, fr1, X1) ∧ fr1 2 = .bool false ∧ X1.WF ∧ X1.get 0 = some (codeBlk c) := by
        refine ⟨?_, ?_, ?_, ?_, ?_, ?_⟩
        rotate_left; rotate_left
        · simp -implicitDefEqProofs +contextual (disch := try first | omega | assumption) [isw_can.l0, canFr, hg, hcb, hrow, hk', hk1, hT, hN, hWa, hWb, g1', g1]
          constructor <;> rfl
        · simp
        · (repeat' (first | assumption | with_reducible apply AHeap.WF.push | with_reducible apply AHeap.WF.set)) <;> (simp <;> omega)
        · simp (disch := omega) [hg]
      obtain ⟨fr1, X1, s1, s2, s3, s4⟩ := st
      exact ⟨fr1, X1, by rw [aloop_exit (by simp) s1]; simp [g1', g1], by simp [g1', g1], fun _ => s2, s3, s4⟩
theorem ints_at (l : List Int) (k : Nat) (h : k < l.length) : (ints l)[k]? = some [.int .i64 l[k]] := by simp [ints, h]
theorem outs_loop (c : CodeM) (hl : c.ops.length ≤ 60000) (hin : 0 ≤ c.inN ∧ c.inN ≤ 4000) (hb : c.outs.length ≤ 1000000000) (X : AHeap) (hg : X.get 0 = some (codeBlk c)) : ∀ (d k : Nat) (x : List (Nat × AV)), k + d = c.outs.length →
    ∃ fr', aloop (isw_can.l1 isw_takes.spec isw_number.spec isw_wire.spec) (AFr.al ([(1, .ptr 0 3 0 0), (72, .rsl 1 (ints c.outs)), (73, .int .i64 c.outs.length), (74, .int .i64 k)] ++ x)) X =
        some (if (c.outs.drop k).all (fun x => decide (0 ≤ x) && decide (x < c.inN + c.ops.length)) = true then .exit 2 else .ret, fr', X) ∧
      ((c.outs.drop k).all (fun x => decide (0 ≤ x) && decide (x < c.inN + c.ops.length)) = false → fr' 2 = .bool false) := by
  intro d
  induction d with
  | zero =>
    intro k x h
    obtain rfl : k = c.outs.length := by omega
    rw [List.drop_length]
    refine ⟨_, aloop_exit (by simp) (by simp -implicitDefEqProofs +contextual (disch := omega) [isw_can.l1]; exact rfl), ?_⟩
    intro q; simp at q
  | succ d ih =>
    intro k x h
    have hk : k < c.outs.length := by omega
    have hk' : (k : Int) < c.outs.length := by omega
    have hk1 : ((k + 1 : Nat) : Int) = (k : Int) + 1 := by omega
    have hrow := ints_at c.outs k hk
    have hdr : c.outs.drop k = c.outs[k] :: c.outs.drop (k + 1) := List.drop_eq_getElem_cons hk
    rw [hdr, List.all_cons]
    generalize c.outs[k] = o at *
    have hW := wire_eq o (c.inN + c.ops.length) true
    have hwo : wireM o (c.inN + c.ops.length) true = (decide (0 ≤ o) && decide (o < c.inN + c.ops.length)) := by simp [wireM]
    rw [← hwo]
    have hcb : codeBlk c = ⟨T.ty_api_Code, 3, true, [[.int .i64 c.inN, .rsl 4 (opRows c.ops), .rsl 1 (ints c.outs)]]⟩ := rfl
    cases hv : wireM o (c.inN + c.ops.length) true with
    | true =>
      rw [hv] at hW
      have st : ∃ y, isw_can.l1 isw_takes.spec isw_number.spec isw_wire.spec (AFr.al ([(1, .ptr 0 3 0 0), (72, .rsl 1 (ints c.outs)), (73, .int .i64 c.outs.length), (74, .int .i64 k)] ++ x)) X =
          some (.normal, AFr.al ([(1, .ptr 0 3 0 0), (72, .rsl 1 (ints c.outs)), (73, .int .i64 c.outs.length), (74, .int .i64 (k + 1 : Nat))] ++ y), X) := by
        refine ⟨?_, ?_⟩
        rotate_left
        · simp -implicitDefEqProofs +contextual (disch := try first | omega | assumption) [isw_can.l1, hg, hcb, hrow, hk', hk1, hW]
          rfl
      obtain ⟨y, s1⟩ := st
      obtain ⟨fr', p1, p2⟩ := ih (k + 1) y (by omega)
      simp only [Bool.true_and]
      exact ⟨fr', (aloop_step s1).trans p1, p2⟩
    | false =>
      rw [hv] at hW
      have st : ∃ fr1, isw_can.l1 isw_takes.spec isw_number.spec isw_wire.spec (AFr.al ([(1, .ptr 0 3 0 0), (72, .rsl 1 (ints c.outs)), (73, .int .i64 c.outs.length), (74, .int .i64 k)] ++ x)) X = some (.ret, fr1, X) ∧ fr1 2 = .bool false := by
        refine ⟨?_, ?_, ?_⟩
        rotate_left
        · simp -implicitDefEqProofs +contextual (disch := try first | omega | assumption) [isw_can.l1, hg, hcb, hrow, hk', hk1, hW]
          rfl
        · simp
      obtain ⟨fr1, s1, s2⟩ := st
      exact ⟨fr1, by rw [aloop_exit (by simp) s1]; simp, fun _ => s2⟩
theorem can_of (c : CodeM) (hl : c.ops.length ≤ 60000) (hin : 0 ≤ c.inN ∧ c.inN ≤ 4000) {X : AHeap} {r} (hr : aloop (isw_can.l0 isw_takes.spec isw_number.spec isw_wire.spec) (AFr.al [(1, .ptr 0 3 0 0), (23, .rsl 4 (opRows c.ops)), (24, .int .i64 c.ops.length), (25, .int .i64 0)]) X = r) (hw : X.WF) (hg : X.get 0 = some (codeBlk c)) :
    ∃ fr' X', r = some (if opsOk c.ops c.inN = true then .exit 0 else .ret, fr', X') ∧ (opsOk c.ops c.inN = true → fr' 1 = .ptr 0 3 0 0) ∧ (opsOk c.ops c.inN = false → fr' 2 = .bool false) ∧ X'.WF ∧ X'.get 0 = some (codeBlk c) := by
  obtain ⟨fr', X', p1, p2⟩ := can_loop c hl hin c.ops.length 0 X [] (by omega) hw hg
  simp only [List.drop_zero, Int.natCast_zero, Int.add_zero] at p1 p2
  exact ⟨fr', X', hr.symm.trans p1, p2⟩
theorem outs_of (c : CodeM) (hl : c.ops.length ≤ 60000) (hin : 0 ≤ c.inN ∧ c.inN ≤ 4000) (hb : c.outs.length ≤ 1000000000) {X : AHeap} {r} (hr : aloop (isw_can.l1 isw_takes.spec isw_number.spec isw_wire.spec) (AFr.al [(1, .ptr 0 3 0 0), (72, .rsl 1 (ints c.outs)), (73, .int .i64 c.outs.length), (74, .int .i64 0)]) X = r) (hg : X.get 0 = some (codeBlk c)) :
    ∃ fr', r = some (if c.outs.all (fun x => decide (0 ≤ x) && decide (x < c.inN + c.ops.length)) = true then .exit 2 else .ret, fr', X) ∧ (c.outs.all (fun x => decide (0 ≤ x) && decide (x < c.inN + c.ops.length)) = false → fr' 2 = .bool false) := by
  obtain ⟨fr', p1, p2⟩ := outs_loop c hl hin hb X hg c.outs.length 0 [] (by omega)
  simp only [List.drop_zero] at p1 p2
  exact ⟨fr', hr.symm.trans p1, p2⟩
set_option maxHeartbeats 4000000 in
theorem can_eq (c : CodeM) (hb : c.outs.length ≤ 1000000000) (hb2 : c.ops.length ≤ 1000000000) : isw_can.spec [.agg c.cells] = some (.bool c.can) := by
  have hcb : codeBlk c = ⟨T.ty_api_Code, 3, true, [[.int .i64 c.inN, .rsl 4 (opRows c.ops), .rsl 1 (ints c.outs)]]⟩ := rfl
  unfold CodeM.cells CodeM.can
  by_cases h1 : 0 ≤ c.inN
  · have h1' : ¬ c.inN < 0 := by omega
    by_cases h2 : c.inN ≤ 4000
    · have h2' : ¬ 4000 < c.inN := by omega
      by_cases h3 : c.ops.length ≤ 60000
      · have h3' : ¬ (60000 : Int) < c.ops.length := by omega
        simp -implicitDefEqProofs +contextual (disch := omega) [isw_can.spec, isw_can, h1', h2', h3']
        generalize hr : aloop _ _ _ = r
        obtain ⟨fr', X', rfl, p2, p3, p4, p5⟩ := can_of c h3 ⟨h1, h2⟩ hr (by (repeat' (first | assumption | with_reducible apply AHeap.WF.push | with_reducible apply AHeap.WF.set | exact AHeap.WF.empty)) <;> (simp <;> omega)) (by simp [hcb])
        cases hv : opsOk c.ops c.inN with
        | true =>
          have p2 := p2 hv
          rw [hcb] at p5
          simp -implicitDefEqProofs +contextual (disch := omega) [p2, p5]
          generalize hr2 : aloop _ _ _ = r2
          obtain ⟨fr2, rfl, q2⟩ := outs_of c h3 ⟨h1, h2⟩ hb hr2 (by rw [hcb]; exact p5)
          cases hv2 : c.outs.all (fun x => decide (0 ≤ x) && decide (x < c.inN + c.ops.length)) with
          | true => simp -implicitDefEqProofs +contextual (disch := omega) [h1, h2, h3]
          | false => simp -implicitDefEqProofs +contextual (disch := omega) [h1, h2, h3, q2 hv2]
        | false => simp -implicitDefEqProofs +contextual (disch := omega) [h1, h2, h3, p3 hv]
      · have h3' : (60000 : Int) < c.ops.length := by omega
        simp -implicitDefEqProofs +contextual (disch := omega) [isw_can.spec, isw_can, h1', h2', h3', h3]
    · have h2' : 4000 < c.inN := by omega
      simp -implicitDefEqProofs +contextual (disch := omega) [isw_can.spec, isw_can, h1', h2', h2]
  · have h1' : c.inN < 0 := by omega
    simp -implicitDefEqProofs +contextual (disch := omega) [isw_can.spec, isw_can, h1', h1]
end Go.Abs
end
section
set_option linter.unusedSimpArgs false
set_option linter.unusedVariables false
namespace Go.Abs
def rndL (l : List OpM) : Nat := (l.filter fun o => decide (o.k = 0)).length
theorem rndL_cons (o : OpM) (l : List OpM) : rndL (o :: l) = (if o.k = 0 then 1 else 0) + rndL l := by
  unfold rndL; rw [List.filter_cons]; by_cases h : o.k = 0 <;> simp [h, Nat.add_comm]
theorem rndL_le (l : List OpM) : rndL l ≤ l.length := List.length_filter_le _ _
theorem rnd_loop (ops : List OpM) (hl : ops.length ≤ 1000000000) : ∀ (d k n : Nat) (X : AHeap) (x : List (Nat × AV)), k + d = ops.length → n ≤ k → X.WF →
    ∃ fr' X', aloop isw_randoms.l0 (AFr.al ([(3, .int .i64 n), (7, .rsl 4 (opRows ops)), (8, .int .i64 ops.length), (9, .int .i64 k)] ++ x)) X = some (.exit 0, fr', X') ∧ fr' 3 = .int .i64 (n + rndL (ops.drop k) : Nat) := by
  intro d
  induction d with
  | zero =>
    intro k n X x h hn hw
    obtain rfl : k = ops.length := by omega
    refine ⟨_, _, aloop_exit (by simp) (by simp -implicitDefEqProofs +contextual (disch := omega) [isw_randoms.l0]; exact ⟨rfl, rfl⟩), ?_⟩
    simp [rndL]
  | succ d ih =>
    intro k n X x h hn hw
    have hk : k < ops.length := by omega
    have hk' : (k : Int) < ops.length := by omega
    have hk1 : ((k + 1 : Nat) : Int) = (k : Int) + 1 := by omega
    have hn1 : ((n + 1 : Nat) : Int) = (n : Int) + 1 := by omega
    have hrow := opRows_get ops k hk
    have hdr : ops.drop k = ops[k] :: ops.drop (k + 1) := List.drop_eq_getElem_cons hk
    rw [hdr, rndL_cons]
    generalize ops[k] = o at *
    simp only [OpM.cells] at hrow
    by_cases h0 : o.k = 0
    · have st : ∃ X1 y, isw_randoms.l0 (AFr.al ([(3, .int .i64 n), (7, .rsl 4 (opRows ops)), (8, .int .i64 ops.length), (9, .int .i64 k)] ++ x)) X =
          some (.normal, AFr.al ([(3, .int .i64 (n + 1 : Nat)), (7, .rsl 4 (opRows ops)), (8, .int .i64 ops.length), (9, .int .i64 (k + 1 : Nat))] ++ y), X1) ∧ X1.WF := by
        refine ⟨?_, ?_, ?_, ?_⟩
        rotate_left; rotate_left
        · simp -implicitDefEqProofs +contextual (disch := try first | omega | assumption) [isw_randoms.l0, hrow, hk', hk1, hn1, h0]
          constructor <;> rfl
        · (repeat' (first | assumption | with_reducible apply AHeap.WF.push | with_reducible apply AHeap.WF.set)) <;> (simp <;> omega)
      obtain ⟨X1, y, s1, s2⟩ := st
      obtain ⟨fr', X', p1, p2⟩ := ih (k + 1) (n + 1) X1 y (by omega) (by omega) s2
      refine ⟨fr', X', (aloop_step s1).trans p1, ?_⟩
      rw [p2, if_pos h0, Nat.add_assoc]
    · have st : ∃ X1 y, isw_randoms.l0 (AFr.al ([(3, .int .i64 n), (7, .rsl 4 (opRows ops)), (8, .int .i64 ops.length), (9, .int .i64 k)] ++ x)) X =
          some (.normal, AFr.al ([(3, .int .i64 n), (7, .rsl 4 (opRows ops)), (8, .int .i64 ops.length), (9, .int .i64 (k + 1 : Nat))] ++ y), X1) ∧ X1.WF := by
        refine ⟨?_, ?_, ?_, ?_⟩
        rotate_left; rotate_left
        · simp -implicitDefEqProofs +contextual (disch := try first | omega | assumption) [isw_randoms.l0, hrow, hk', hk1, h0]
          constructor <;> rfl
        · (repeat' (first | assumption | with_reducible apply AHeap.WF.push | with_reducible apply AHeap.WF.set)) <;> (simp <;> omega)
      obtain ⟨X1, y, s1, s2⟩ := st
      obtain ⟨fr', X', p1, p2⟩ := ih (k + 1) n X1 y (by omega) (by omega) s2
      refine ⟨fr', X', (aloop_step s1).trans p1, ?_⟩
      rw [p2, if_neg h0, Nat.zero_add]
theorem rnd_of (ops : List OpM) (hl : ops.length ≤ 1000000000) {X : AHeap} {r} (hr : aloop isw_randoms.l0 (AFr.al [(3, .int .i64 0), (7, .rsl 4 (opRows ops)), (8, .int .i64 ops.length), (9, .int .i64 0)]) X = r) (hw : X.WF) :
    ∃ fr' X', r = some (.exit 0, fr', X') ∧ fr' 3 = .int .i64 (rndL ops : Nat) := by
  obtain ⟨fr', X', p1, p2⟩ := rnd_loop ops hl ops.length 0 0 X [] (by omega) (by omega) hw
  rw [List.drop_zero, Nat.zero_add] at p2
  exact ⟨fr', X', hr.symm.trans p1, p2⟩
theorem randoms_eq (c : CodeM) (hl : c.ops.length ≤ 1000000000) : isw_randoms.spec [.agg c.cells] = some (.int .i64 (c.randoms : Nat)) := by
  unfold CodeM.cells
  simp -implicitDefEqProofs +contextual (disch := omega) [isw_randoms.spec, isw_randoms]
  generalize hr : aloop _ _ _ = r
  obtain ⟨fr', X', rfl, p2⟩ := rnd_of c.ops hl hr (by (repeat' (first | assumption | with_reducible apply AHeap.WF.push | with_reducible apply AHeap.WF.set | exact AHeap.WF.empty)) <;> (simp <;> omega))
  simp -implicitDefEqProofs +contextual (disch := omega) [p2]
  rfl
theorem Can_eq' (c : CodeM) (hb : c.outs.length ≤ 1000000000) (hb2 : c.ops.length ≤ 1000000000) : isw_Can.spec [.agg c.cells] = some (.bool c.can) := by
  have h := can_eq c hb hb2
  unfold CodeM.cells at h ⊢
  simp -implicitDefEqProofs +contextual (disch := omega) [isw_Can.spec, isw_Can, h]
theorem Randoms_eq' (c : CodeM) (hl : c.ops.length ≤ 1000000000) : isw_Randoms.spec [.agg c.cells] = some (.int .i64 (c.randoms : Nat)) := by
  have h := randoms_eq c hl
  unfold CodeM.cells at h ⊢
  simp -implicitDefEqProofs +contextual (disch := omega) [isw_Randoms.spec, isw_Randoms, h]
end Go.Abs
end
section
set_option linter.unusedSimpArgs false
set_option linter.unusedVariables false
namespace Go.Abs
theorem rotl_eq (a : BitVec 32) (k : Nat) (hk : k < 32) : math_bits_RotateLeft32.spec [W32 a, .int .i64 k] = some (W32 (a.rotateLeft k)) := by
  simp -implicitDefEqProofs +contextual (disch := omega) [math_bits_RotateLeft32.spec, math_bits_RotateLeft32]
  have e1 : k % 18446744073709551616 &&& 31 = k := by
    rw [Nat.mod_eq_of_lt (by omega), show (31 : Nat) = 2 ^ 5 - 1 from rfl, Nat.and_two_pow_sub_one_eq_mod]; omega
  have e2 : (18446744073709551616 - k + 32) % 18446744073709551616 = 32 - k := by omega
  rw [e1, e2]
  unfold BitVec.rotateLeft BitVec.rotateLeftAux
  rw [Nat.mod_eq_of_lt hk]
theorem Rot_eq (a n : BitVec 32) : word_Rot.spec [W32 a, W32 n] = some (W32 (rotM a n)) := by
  have h := rotl_eq a (n.toNat % 32) (Nat.mod_lt _ (by omega))
  have e : ((n.toNat % 32 : Nat) : Int) = (n.toNat : Int) % 32 := by omega
  rw [e] at h
  simp -implicitDefEqProofs +contextual (disch := omega) [word_Rot.spec, word_Rot, h]
  simp [rotM]
theorem step_eq (o : OpM) (a b : BitVec 32) : isw_step.spec [.agg o.cells, W32 a, W32 b] = some (W32 (stepW o a b)) := by
  obtain ⟨k, x, y, n⟩ := o
  unfold OpM.cells stepW
  dsimp only
  have hR := Rot_eq a n
  by_cases h1 : k = 1
  · subst h1; simp -implicitDefEqProofs +contextual (disch := omega) [isw_step.spec, isw_step]
  by_cases h2 : k = 2
  · subst h2; simp -implicitDefEqProofs +contextual (disch := omega) [isw_step.spec, isw_step]
  by_cases h3 : k = 3
  · subst h3; simp -implicitDefEqProofs +contextual (disch := omega) [isw_step.spec, isw_step]
  by_cases h4 : k = 4
  · subst h4; simp -implicitDefEqProofs +contextual (disch := omega) [isw_step.spec, isw_step]
  by_cases h5 : k = 5
  · subst h5; simp -implicitDefEqProofs +contextual (disch := omega) [isw_step.spec, isw_step]
  by_cases h6 : k = 6
  · subst h6; simp -implicitDefEqProofs +contextual (disch := omega) [isw_step.spec, isw_step, hR]
  by_cases h7 : k = 7
  · subst h7; simp -implicitDefEqProofs +contextual (disch := omega) [isw_step.spec, isw_step]
  simp -implicitDefEqProofs +contextual (disch := omega) [isw_step.spec, isw_step, h1, h2, h3, h4, h5, h6, h7]
end Go.Abs
end
section
set_option linter.unusedSimpArgs false
set_option linter.unusedVariables false
namespace Go.Abs
noncomputable abbrev exL0 := isw_Exec.l0 isw_can.spec isw_randoms.spec isw_takes.spec isw_step.spec
def exFr (ops : List OpM) (w t : List (BitVec 32)) (ob k : Nat) (x : List (Nat × AV)) : AFr :=
  AFr.al ([(2, .rsl 1 (w32s t)), (8, .sl ob 1 0 w.length), (37, .rsl 4 (opRows ops)), (38, .int .i64 ops.length), (39, .int .i64 k)] ++ x)
def wBlk (w : List (BitVec 32)) : Blk := ⟨T.ty_uint32, 1, true, w32s w⟩
theorem ex_round (ops : List OpM) (hl : ops.length ≤ 60000) (k : Nat) (hk : k < ops.length) (w t : List (BitVec 32)) (ob : Nat) (X : AHeap) (x : List (Nat × AV)) (hw : X.WF) (hb : X.get ob = some (wBlk w)) (hwl : w.length ≤ 70000) (o : OpM) (ho : ops[k] = o)
    (hok : o.ok w.length = true) (ht : o.k = 0 → 0 < t.length) :
    ∃ X1 ob' y, exL0 (exFr ops w t ob k x) X = some (.normal, exFr ops (w ++ [if o.k = 0 then at0 t 0 else stepW o (if 0 < takesM o.k then at0 w o.a.toNat else 0#32) (if 1 < takesM o.k then at0 w o.b.toNat else 0#32)]) (if o.k = 0 then t.tail else t) ob' (k + 1) y, X1) ∧
      X1.WF ∧ X1.get ob' = some (wBlk (w ++ [if o.k = 0 then at0 t 0 else stepW o (if 0 < takesM o.k then at0 w o.a.toNat else 0#32) (if 1 < takesM o.k then at0 w o.b.toNat else 0#32)])) := by
  have hk' : (k : Int) < ops.length := by omega
  have hk1 : ((k + 1 : Nat) : Int) = (k : Int) + 1 := by omega
  have hrow := opRows_get ops k hk
  rw [ho] at hrow
  have hbl := hw _ _ hb
  obtain ⟨ok, oa, obb, on⟩ := o
  simp only [OpM.cells] at hrow
  dsimp only at ht ⊢
  by_cases h0 : ok = 0
  · subst h0
    obtain ⟨t0, t, rfl⟩ : ∃ t0 t', t = t0 :: t' := by
      cases t with
      | nil => simp at ht
      | cons a l => exact ⟨a, l, rfl⟩
    simp only [if_true, List.tail_cons]
    refine ⟨?_, ?_, ?_, ?_, ?_, ?_⟩
    rotate_left; rotate_left; rotate_left
    · simp -implicitDefEqProofs +contextual (disch := try first | omega | assumption) [isw_Exec.l0, exFr, hb, wBlk, hrow, hk', hk1, w32s]
      constructor <;> rfl
    · (repeat' (first | assumption | with_reducible apply AHeap.WF.push | with_reducible apply AHeap.WF.set)) <;> (simp <;> omega)
    · simp (disch := omega) [wBlk, w32s, at0]
  · have hT := takes_eq ok
    have hS := fun a b => step_eq ⟨ok, oa, obb, on⟩ a b
    simp only [OpM.cells] at hS
    simp only [OpM.ok, Bool.and_eq_true, decide_eq_true_eq] at hok
    obtain ⟨⟨⟨⟨q1, q2⟩, q3⟩, q4⟩, q5⟩ := hok
    rw [if_neg h0, if_neg h0]
    have hcase : takesM ok = 0 ∨ takesM ok = 1 ∨ takesM ok = 2 := by
      unfold takesM; split
      · exact .inr (.inr rfl)
      · split
        · exact .inr (.inl rfl)
        · exact .inl rfl
    generalize takesM ok = tk at *
    generalize stepW ⟨ok, oa, obb, on⟩ = sw at *
    rcases hcase with rfl | rfl | rfl
    · have hA : True := trivial
      have hB : True := trivial
      have hv := hS 0#32 0#32
      rw [if_neg (by omega), if_neg (by omega)]
      generalize sw 0#32 0#32 = v at *
      refine ⟨?_, ?_, ?_, ?_, ?_, ?_⟩
      rotate_left; rotate_left; rotate_left
      · simp -implicitDefEqProofs +contextual (disch := try first | omega | assumption) [isw_Exec.l0, isw_Exec.l1, aloop_unroll, exFr, hb, wBlk, hrow, hk', hk1, h0, hT, hv, hA, hB]
        constructor <;> rfl
      · (repeat' (first | assumption | with_reducible apply AHeap.WF.push | with_reducible apply AHeap.WF.set)) <;> (simp <;> omega)
      · simp (disch := omega) [wBlk, w32s_snoc]
    · obtain ⟨A, rfl⟩ : ∃ A : Nat, oa = A := ⟨oa.toNat, by simp [wireM] at q4; omega⟩
      have hA : A < w.length := by simp [wireM] at q4; omega
      have hB : (A : Int) < w.length := by omega
      simp only [Int.toNat_natCast]
      have hv := hS (at0 w A) 0#32
      rw [if_pos (by omega), if_neg (by omega)]
      generalize sw (at0 w A) 0#32 = v at *
      refine ⟨?_, ?_, ?_, ?_, ?_, ?_⟩
      rotate_left; rotate_left; rotate_left
      · simp -implicitDefEqProofs +contextual (disch := try first | omega | assumption) [isw_Exec.l0, isw_Exec.l1, aloop_unroll, exFr, hb, wBlk, hrow, hk', hk1, h0, hT, hv, hA, hB]
        constructor <;> rfl
      · (repeat' (first | assumption | with_reducible apply AHeap.WF.push | with_reducible apply AHeap.WF.set)) <;> (simp <;> omega)
      · simp (disch := omega) [wBlk, w32s_snoc]
    · obtain ⟨A, rfl⟩ : ∃ A : Nat, oa = A := ⟨oa.toNat, by simp [wireM] at q4; omega⟩
      obtain ⟨B, rfl⟩ : ∃ B : Nat, obb = B := ⟨obb.toNat, by simp [wireM] at q5; omega⟩
      have hA : A < w.length ∧ B < w.length := by simp [wireM] at q4 q5; omega
      have hB : (A : Int) < w.length ∧ (B : Int) < w.length := by omega
      simp only [Int.toNat_natCast]
      have hv := hS (at0 w A) (at0 w B)
      rw [if_pos (by omega), if_pos (by omega)]
      generalize sw (at0 w A) (at0 w B) = v at *
      refine ⟨?_, ?_, ?_, ?_, ?_, ?_⟩
      rotate_left; rotate_left; rotate_left
      · simp -implicitDefEqProofs +contextual (disch := try first | omega | assumption) [isw_Exec.l0, isw_Exec.l1, aloop_unroll, exFr, hb, wBlk, hrow, hk', hk1, h0, hT, hv, hA, hB]
        constructor <;> rfl
      · (repeat' (first | assumption | with_reducible apply AHeap.WF.push | with_reducible apply AHeap.WF.set)) <;> (simp <;> omega)
      · simp (disch := omega) [wBlk, w32s_snoc]
theorem runOps_cons (o : OpM) (l : List OpM) (w t : List (BitVec 32)) : runOps (o :: l) w t =
    runOps l (w ++ [if o.k = 0 then at0 t 0 else stepW o (if 0 < takesM o.k then at0 w o.a.toNat else 0#32) (if 1 < takesM o.k then at0 w o.b.toNat else 0#32)]) (if o.k = 0 then t.tail else t) := by
  by_cases h : o.k = 0
  · rw [runOps, if_pos h, if_pos h, if_pos h]
  · rw [runOps, if_neg h, if_neg h, if_neg h]
theorem ex_loop (ops : List OpM) (hl : ops.length ≤ 60000) : ∀ (d k : Nat) (w t : List (BitVec 32)) (ob : Nat) (X : AHeap) (x : List (Nat × AV)), k + d = ops.length → w.length ≤ 4000 + k → opsOk (ops.drop k) w.length = true → rndL (ops.drop k) ≤ t.length → X.WF → X.get ob = some (wBlk w) →
    ∃ fr' X' ob', aloop exL0 (exFr ops w t ob k x) X = some (.exit 0, fr', X') ∧ fr' 8 = .sl ob' 1 0 (runOps (ops.drop k) w t).length ∧ X'.get ob' = some (wBlk (runOps (ops.drop k) w t)) := by
  intro d
  induction d with
  | zero =>
    intro k w t ob X x h hwl hok hr hw hb
    obtain rfl : k = ops.length := by omega
    rw [List.drop_length]
    refine ⟨_, _, ob, aloop_exit (by simp) (by simp -implicitDefEqProofs +contextual (disch := omega) [isw_Exec.l0, exFr]; exact ⟨rfl, rfl⟩), ?_, ?_⟩
    · simp [runOps]
    · simpa [runOps] using hb
  | succ d ih =>
    intro k w t ob X x h hwl hok hr hw hb
    have hk : k < ops.length := by omega
    have hdr : ops.drop k = ops[k] :: ops.drop (k + 1) := List.drop_eq_getElem_cons hk
    rw [hdr, opsOk_cons, Bool.and_eq_true] at hok
    rw [hdr, rndL_cons] at hr
    obtain ⟨X1, ob', y, s1, s2, s3⟩ := ex_round ops hl k hk w t ob X x hw hb (by omega) ops[k] rfl hok.1 (fun q => by rw [if_pos q] at hr; omega)
    obtain ⟨fr', X', ob2, p1, p2, p3⟩ := ih (k + 1) (w ++ [if ops[k].k = 0 then at0 t 0 else stepW ops[k] (if 0 < takesM ops[k].k then at0 w ops[k].a.toNat else 0#32) (if 1 < takesM ops[k].k then at0 w ops[k].b.toNat else 0#32)]) (if ops[k].k = 0 then t.tail else t) ob' X1 y (by omega) (by simp; omega) (by
        have := hok.2
        rw [List.length_append, List.length_singleton]
        have e : ((w.length + 1 : Nat) : Int) = (w.length : Int) + 1 := by omega
        rw [e]; exact this) (by
        by_cases q : ops[k].k = 0
        · rw [if_pos q] at hr ⊢; rw [List.length_tail]; omega
        · rw [if_neg q] at hr ⊢; omega) s2 s3
    refine ⟨fr', X', ob2, (aloop_step s1).trans p1, ?_, ?_⟩
    · rw [hdr, runOps_cons]; exact p2
    · rw [hdr, runOps_cons]; exact p3
end Go.Abs
end
section
set_option linter.unusedSimpArgs false
set_option linter.unusedVariables false
namespace Go.Abs
theorem exec_of (ops : List OpM) (hl : ops.length ≤ 60000) (w t : List (BitVec 32)) (ob n : Nat) (hln : w.length = n) {X : AHeap} {r} (hr : aloop exL0 (AFr.al [(2, .rsl 1 (w32s t)), (8, .sl ob 1 0 n), (37, .rsl 4 (opRows ops)), (38, .int .i64 ops.length), (39, .int .i64 0)]) X = r) (hwl : w.length ≤ 4000) (hok : opsOk ops w.length = true) (hn : rndL ops ≤ t.length) (hw : X.WF) (hb : X.get ob = some (wBlk w)) :
    ∃ fr' X' ob', r = some (.exit 0, fr', X') ∧ fr' 8 = .sl ob' 1 0 (runOps ops w t).length ∧ X'.get ob' = some (wBlk (runOps ops w t)) := by
  subst hln
  obtain ⟨fr', X', ob', p1, p2, p3⟩ := ex_loop ops hl ops.length 0 w t ob X [] (by omega) (by omega) hok hn hw hb
  exact ⟨fr', X', ob', hr.symm.trans p1, p2, p3⟩
theorem pad_rows (inp : List (BitVec 32)) (n : Nat) : List.take n (w32s inp) ++ List.replicate (n - min inp.length n) [W32 0#32] = w32s (padM inp n) := by
  apply List.ext_getElem?
  intro i
  rw [w32s_get]
  have hpl : (padM inp n).length = n := by simp [padM]
  have hat : i < n → at0 (padM inp n) i = at0 inp i := fun h => by simp [padM, at0, List.getD_eq_getElem?_getD, h]
  by_cases h : i < n
  · rw [hpl, if_pos h, hat h]
    by_cases h2 : i < inp.length
    · rw [List.getElem?_append_left (by simp; omega), List.getElem?_take, if_pos h, w32s_get, if_pos h2]
    · rw [List.getElem?_append_right (by simp; omega), List.getElem?_replicate, if_pos (by simp; omega)]
      simp [at0, List.getD_eq_getElem?_getD, List.getElem?_eq_none (by omega : inp.length ≤ i)]
  · rw [hpl, if_neg h, List.getElem?_eq_none (by simp; omega)]
set_option maxHeartbeats 4000000 in
theorem Exec_eq (c : CodeM) (inp tape : List (BitVec 32)) (hb : c.outs.length ≤ 1000000000) (hb2 : c.ops.length ≤ 1000000000) (hi : inp.length ≤ 1000000000) (ht : tape.length ≤ 1000000000) :
    isw_Exec.spec [.agg c.cells, .rsl 1 (w32s inp), .rsl 1 (w32s tape)] = some (.tup [.rsl 1 (w32s (c.exec inp tape).1), .bool (c.exec inp tape).2]) := by
  have hC := can_eq c hb hb2
  have hR := randoms_eq c hb2
  unfold CodeM.exec
  unfold CodeM.cells at hC hR ⊢
  by_cases h1 : c.can = true
  · rw [h1] at hC
    by_cases h2 : c.randoms ≤ tape.length
    · have h2' : ¬ (tape.length : Int) < c.randoms := by omega
      have hcan := h1
      simp only [CodeM.can, Bool.and_eq_true, decide_eq_true_eq] at hcan
      obtain ⟨⟨⟨⟨q1, q2⟩, q3⟩, q4⟩, q5⟩ := hcan
      obtain ⟨n, hn⟩ : ∃ n : Nat, c.inN = n := ⟨c.inN.toNat, by omega⟩
      rw [hn] at hC hR q4 ⊢
      simp -implicitDefEqProofs +contextual (disch := omega) [isw_Exec.spec, isw_Exec, hC, hR, h1, h2, h2']
      rw [pad_rows]
      have hpl : (padM inp n).length = n := by simp [padM]
      generalize hr : aloop _ _ _ = r
      obtain ⟨fr', X', ob', rfl, p2, p3⟩ := exec_of c.ops q3 (padM inp n) tape 1 n hpl hr (by rw [hpl]; omega) (by rw [hpl]; exact q4) h2 (by (repeat' (first | assumption | with_reducible apply AHeap.WF.push | with_reducible apply AHeap.WF.set | exact AHeap.WF.empty)) <;> (simp <;> omega)) (by simp [wBlk])
      simp only [wBlk] at p3
      simp -implicitDefEqProofs +contextual (disch := omega) [p2, p3]
    · have h2' : (tape.length : Int) < c.randoms := by omega
      simp -implicitDefEqProofs +contextual (disch := omega) [isw_Exec.spec, isw_Exec, hC, hR, h1, h2, h2']
      rfl
  · rw [Bool.not_eq_true] at h1
    rw [h1] at hC
    simp -implicitDefEqProofs +contextual (disch := omega) [isw_Exec.spec, isw_Exec, hC, h1]
    rfl
end Go.Abs
end
section
set_option linter.unusedSimpArgs false
set_option linter.unusedVariables false
end
