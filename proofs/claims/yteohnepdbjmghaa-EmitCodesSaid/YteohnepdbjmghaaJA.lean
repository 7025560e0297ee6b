import Derived.Test.YteohnepdbjmghaaQI
import Derived.Test.YteohnepdbjmghaaIxF
import Derived.Test.YteohnepdbjmghaaLoF
section
set_option linter.unusedSimpArgs false
set_option linter.unusedVariables false
namespace Go.Abs
theorem takes_eq (k : Int) : isw_takes.spec [.int .i64 k] = some (.int .i64 (takesM k)) := by
  by_cases h1 : k = 1
  · subst h1; simp -implicitDefEqProofs +contextual (disch := omega) [isw_takes.spec, isw_takes, takesM]
  by_cases h2 : k = 2
  · subst h2; simp -implicitDefEqProofs +contextual (disch := omega) [isw_takes.spec, isw_takes, takesM]
  by_cases h3 : k = 3
  · subst h3; simp -implicitDefEqProofs +contextual (disch := omega) [isw_takes.spec, isw_takes, takesM]
  by_cases h4 : k = 4
  · subst h4; simp -implicitDefEqProofs +contextual (disch := omega) [isw_takes.spec, isw_takes, takesM]
  by_cases h5 : k = 5
  · subst h5; simp -implicitDefEqProofs +contextual (disch := omega) [isw_takes.spec, isw_takes, takesM]
  by_cases h6 : k = 6
  · subst h6; simp -implicitDefEqProofs +contextual (disch := omega) [isw_takes.spec, isw_takes, takesM]
  by_cases h8 : k = 8
  · subst h8; simp -implicitDefEqProofs +contextual (disch := omega) [isw_takes.spec, isw_takes, takesM]
  have e : takesM k = 0 := by
    unfold takesM
    rw [if_neg (by omega), if_neg (by omega)]
  rw [e]
  simp -implicitDefEqProofs +contextual (disch := omega) [isw_takes.spec, isw_takes, h1, h2, h3, h4, h5, h6, h8]
theorem number_eq (o : OpM) : isw_number.spec [.agg o.cells] = some (.bool (numberM o)) := by
  obtain ⟨k, a, b, n⟩ := o
  unfold OpM.cells numberM
  dsimp only
  by_cases h7 : k = 7
  · subst h7; simp -implicitDefEqProofs +contextual (disch := omega) [isw_number.spec, isw_number]
  by_cases h4 : k = 4
  · subst h4; simp -implicitDefEqProofs +contextual (disch := omega) [isw_number.spec, isw_number, BitVec.lt_def]
  by_cases h5 : k = 5
  · subst h5; simp -implicitDefEqProofs +contextual (disch := omega) [isw_number.spec, isw_number, BitVec.lt_def]
  by_cases h6 : k = 6
  · subst h6; simp -implicitDefEqProofs +contextual (disch := omega) [isw_number.spec, isw_number, BitVec.lt_def]
  simp -implicitDefEqProofs +contextual (disch := omega) [isw_number.spec, isw_number, h4, h5, h6, h7]
  rfl
theorem wire_eq (x w : Int) (b : Bool) : isw_wire.spec [.int .i64 x, .int .i64 w, .bool b] = some (.bool (wireM x w b)) := by
  unfold wireM
  cases b with
  | true =>
    by_cases h : 0 ≤ x
    · simp -implicitDefEqProofs +contextual (disch := omega) [isw_wire.spec, isw_wire, h]
    · simp -implicitDefEqProofs +contextual (disch := omega) [isw_wire.spec, isw_wire, h]
  | false =>
    simp -implicitDefEqProofs +contextual (disch := omega) [isw_wire.spec, isw_wire]
    rfl
def codeBlk (c : CodeM) : Blk := ⟨T.ty_api_Code, 3, true, [c.cells]⟩
theorem opsOk_cons (o : OpM) (l : List OpM) (w : Int) : opsOk (o :: l) w = (o.ok w && opsOk l (w + 1)) := rfl
def canFr (c : CodeM) (k : Nat) (x : List (Nat × AV)) : AFr := AFr.al ([(1, .ptr 0 3 0 0), (23, .rsl 4 (opRows c.ops)), (24, .int .i64 c.ops.length), (25, .int .i64 k)] ++ x)
theorem can_loop (c : CodeM) (hl : c.ops.length ≤ 60000) (hin : 0 ≤ c.inN ∧ c.inN ≤ 4000) : ∀ (d k : Nat) (X : AHeap) (x : List (Nat × AV)), k + d = c.ops.length → X.WF → X.get 0 = some (codeBlk c) →
    ∃ fr' X', aloop (isw_can.l0 isw_takes.spec isw_number.spec isw_wire.spec) (canFr c k x) X = some (if opsOk (c.ops.drop k) (c.inN + k) = true then .exit 0 else .ret, fr', X') ∧
      (opsOk (c.ops.drop k) (c.inN + k) = true → fr' 1 = .ptr 0 3 0 0) ∧ (opsOk (c.ops.drop k) (c.inN + k) = false → fr' 2 = .bool false) ∧ X'.WF ∧ X'.get 0 = some (codeBlk c) := by
  intro d
  induction d with
  | zero =>
    intro k X x h hw hg
    obtain rfl : k = c.ops.length := by omega
    rw [List.drop_length]
    refine ⟨_, _, aloop_exit (by simp [opsOk]) (by simp -implicitDefEqProofs +contextual (disch := omega) [isw_can.l0, canFr, opsOk]; exact rfl), ?_, ?_, hw, hg⟩
    · intro _; simp
    · intro q; simp [opsOk] at q
  | succ d ih =>
    intro k X x h hw hg
    have hk : k < c.ops.length := by omega
    have hk' : (k : Int) < c.ops.length := by omega
    have hk1 : ((k + 1 : Nat) : Int) = (k : Int) + 1 := by omega
    have hrow := opRows_get c.ops k hk
    have hdr : c.ops.drop k = c.ops[k] :: c.ops.drop (k + 1) := List.drop_eq_getElem_cons hk
    have hne := hw _ _ hg
    rw [hdr, opsOk_cons]
    have hT := takes_eq c.ops[k].k
    have hN := number_eq c.ops[k]
    have hW := wire_eq
    generalize c.ops[k] = o at *
    obtain ⟨ok, oa, ob, on⟩ := o
    simp only [OpM.cells] at hN hrow hT
    have hWa := wire_eq oa (c.inN + k) (decide (0 < takesM ok))
    have hWb := wire_eq ob (c.inN + k) (decide (1 < takesM ok))
    have hok : OpM.ok ⟨ok, oa, ob, on⟩ (c.inN + k) = (decide (0 ≤ ok) && decide (ok < 9) && numberM ⟨ok, oa, ob, on⟩ && wireM oa (c.inN + k) (decide (0 < takesM ok)) && wireM ob (c.inN + k) (decide (1 < takesM ok))) := rfl
    rw [hok]
    generalize numberM ⟨ok, oa, ob, on⟩ = nb at *
    generalize wireM oa (c.inN + k) (decide (0 < takesM ok)) = wa at *
    generalize wireM ob (c.inN + k) (decide (1 < takesM ok)) = wb at *
    have hcb : codeBlk c = ⟨T.ty_api_Code, 3, true, [[.int .i64 c.inN, .rsl 4 (opRows c.ops), .rsl 1 (ints c.outs)]]⟩ := rfl
    have e0 : c.inN + (k : Int) + 1 = c.inN + ((k + 1 : Nat) : Int) := by omega
    by_cases g1 : 0 ≤ ok
    · have g1' : ¬ ok < 0 := by omega
      by_cases g2 : ok < 9
      · have g2' : ¬ 9 ≤ ok := by omega
        cases nb with
        | true =>
          cases wa with
          | true =>
            cases wb with
            | true =>
              have st : ∃ X1 y, isw_can.l0 isw_takes.spec isw_number.spec isw_wire.spec (canFr c k x) X = some (.normal, canFr c (k + 1) y, X1) ∧ X1.WF ∧ X1.get 0 = some (codeBlk c) := by
                refine ⟨?_, ?_, ?_, ?_, ?_⟩
                rotate_left; rotate_left
                · simp -implicitDefEqProofs +contextual (disch := try first | omega | assumption) [isw_can.l0, canFr, hg, hcb, hrow, hk', hk1, hT, hN, hWa, hWb, g1', g2']
                  constructor <;> rfl
                · (repeat' (first | assumption | with_reducible apply AHeap.WF.push | with_reducible apply AHeap.WF.set)) <;> (simp <;> omega)
                · simp (disch := omega) [hg]
              obtain ⟨X1, y, s1, s2, s3⟩ := st
              obtain ⟨fr', X', p1, p2, p3, p4, p5⟩ := ih (k + 1) X1 y (by omega) s2 s3
              simp only [decide_eq_true g1, decide_eq_true g2, Bool.true_and, e0]
              exact ⟨fr', X', (aloop_step s1).trans p1, p2, p3, p4, p5⟩
            | false =>
              have st : ∃ fr1 X1, isw_can.l0 isw_takes.spec isw_number.spec isw_wire.spec (canFr c k x) X = some (.ret, fr1, X1) ∧ fr1 2 = .bool false ∧ X1.WF ∧ X1.get 0 = some (codeBlk c) := by
                refine ⟨?_, ?_, ?_, ?_, ?_, ?_⟩
                rotate_left; rotate_left
                · simp -implicitDefEqProofs +contextual (disch := try first | omega | assumption) [isw_can.l0, canFr, hg, hcb, hrow, hk', hk1, hT, hN, hWa, hWb, g1', g2', g1, g2]
                  constructor <;> rfl
                · simp
                · (repeat' (first | assumption | with_reducible apply AHeap.WF.push | with_reducible apply AHeap.WF.set)) <;> (simp <;> omega)
                · simp (disch := omega) [hg]
              obtain ⟨fr1, X1, s1, s2, s3, s4⟩ := st
              exact ⟨fr1, X1, by rw [aloop_exit (by simp) s1]; simp [g1', g2', g1, g2], by simp [g1', g2', g1, g2], fun _ => s2, s3, s4⟩
          | false =>
            have st : ∃ fr1 X1, isw_can.l0 isw_takes.spec isw_number.spec isw_wire.spec (canFr c k x) X = some (.ret, fr1, X1) ∧ fr1 2 = .bool false ∧ X1.WF ∧ X1.get 0 = some (codeBlk c) := by
              refine ⟨?_, ?_, ?_, ?_, ?_, ?_⟩
              rotate_left; rotate_left
              · simp -implicitDefEqProofs +contextual (disch := try first | omega | assumption) [isw_can.l0, canFr, hg, hcb, hrow, hk', hk1, hT, hN, hWa, hWb, g1', g2', g1, g2]
                constructor <;> rfl
              · simp
              · (repeat' (first | assumption | with_reducible apply AHeap.WF.push | with_reducible apply AHeap.WF.set)) <;> (simp <;> omega)
              · simp (disch := omega) [hg]
            obtain ⟨fr1, X1, s1, s2, s3, s4⟩ := st
            exact ⟨fr1, X1, by rw [aloop_exit (by simp) s1]; simp [g1', g2', g1, g2], by simp [g1', g2', g1, g2], fun _ => s2, s3, s4⟩
        | false =>
          have st : ∃ fr1 X1, isw_can.l0 isw_takes.spec isw_number.spec isw_wire.spec (canFr c k x) X = some (.ret, fr1, X1) ∧ fr1 2 = .bool false ∧ X1.WF ∧ X1.get 0 = some (codeBlk c) := by
            refine ⟨?_, ?_, ?_, ?_, ?_, ?_⟩
            rotate_left; rotate_left
            · simp -implicitDefEqProofs +contextual (disch := try first | omega | assumption) [isw_can.l0, canFr, hg, hcb, hrow, hk', hk1, hT, hN, hWa, hWb, g1', g2', g1, g2]
              constructor <;> rfl
            · simp
            · (repeat' (first | assumption | with_reducible apply AHeap.WF.push | with_reducible apply AHeap.WF.set)) <;> (simp <;> omega)
            · simp (disch := omega) [hg]
          obtain ⟨fr1, X1, s1, s2, s3, s4⟩ := st
          exact ⟨fr1, X1, by rw [aloop_exit (by simp) s1]; simp [g1', g2', g1, g2], by simp [g1', g2', g1, g2], fun _ => s2, s3, s4⟩
      · have g2' : 9 ≤ ok := by omega
        have st : ∃ fr1 X1, isw_can.l0 isw_takes.spec isw_number.spec isw_wire.spec (canFr c k x) X = some (.ret, fr1, X1) ∧ fr1 2 = .bool false ∧ X1.WF ∧ X1.get 0 = some (codeBlk c) := by
          refine ⟨?_, ?_, ?_, ?_, ?_, ?_⟩
          rotate_left; rotate_left
          · simp -implicitDefEqProofs +contextual (disch := try first | omega | assumption) [isw_can.l0, canFr, hg, hcb, hrow, hk', hk1, hT, hN, hWa, hWb, g1', g2', g1, g2]
            constructor <;> rfl
          · simp
          · (repeat' (first | assumption | with_reducible apply AHeap.WF.push | with_reducible apply AHeap.WF.set)) <;> (simp <;> omega)
          · simp (disch := omega) [hg]
        obtain ⟨fr1, X1, s1, s2, s3, s4⟩ := st
        exact ⟨fr1, X1, by rw [aloop_exit (by simp) s1]; simp [g1', g2', g1, g2], by simp [g1', g2', g1, g2], fun _ => s2, s3, s4⟩
    · have g1' : ok < 0 := by omega
      have st : ∃ fr1 X1, isw_can.l0 isw_takes.spec isw_number.spec isw_wire.spec (canFr c k x) X = some (.ret, fr1, X1) ∧ fr1 2 = .bool false ∧ X1.WF ∧ X1.get 0 = some (codeBlk c) := by
        refine ⟨?_, ?_, ?_, ?_, ?_, ?_⟩
        rotate_left; rotate_left
        · simp -implicitDefEqProofs +contextual (disch := try first | omega | assumption) [isw_can.l0, canFr, hg, hcb, hrow, hk', hk1, hT, hN, hWa, hWb, g1', g1]
          constructor <;> rfl
        · simp
        · (repeat' (first | assumption | with_reducible apply AHeap.WF.push | with_reducible apply AHeap.WF.set)) <;> (simp <;> omega)
        · simp (disch := omega) [hg]
      obtain ⟨fr1, X1, s1, s2, s3, s4⟩ := st
      exact ⟨fr1, X1, by rw [aloop_exit (by simp) s1]; simp [g1', g1], by simp [g1', g1], fun _ => s2, s3, s4⟩
theorem ints_at (l : List Int) (k : Nat) (h : k < l.length) : (ints l)[k]? = some [.int .i64 l[k]] := by simp [ints, h]
theorem outs_loop (c : CodeM) (hl : c.ops.length ≤ 60000) (hin : 0 ≤ c.inN ∧ c.inN ≤ 4000) (hb : c.outs.length ≤ 1000000000) (X : AHeap) (hg : X.get 0 = some (codeBlk c)) : ∀ (d k : Nat) (x : List (Nat × AV)), k + d = c.outs.length →
    ∃ fr', aloop (isw_can.l1 isw_takes.spec isw_number.spec isw_wire.spec) (AFr.al ([(1, .ptr 0 3 0 0), (72, .rsl 1 (ints c.outs)), (73, .int .i64 c.outs.length), (74, .int .i64 k)] ++ x)) X =
        some (if (c.outs.drop k).all (fun x => decide (0 ≤ x) && decide (x < c.inN + c.ops.length)) = true then .exit 2 else .ret, fr', X) ∧
      ((c.outs.drop k).all (fun x => decide (0 ≤ x) && decide (x < c.inN + c.ops.length)) = false → fr' 2 = .bool false) := by
  intro d
  induction d with
  | zero =>
    intro k x h
    obtain rfl : k = c.outs.length := by omega
    rw [List.drop_length]
    refine ⟨_, aloop_exit (by simp) (by simp -implicitDefEqProofs +contextual (disch := omega) [isw_can.l1]; exact rfl), ?_⟩
    intro q; simp at q
  | succ d ih =>
    intro k x h
    have hk : k < c.outs.length := by omega
    have hk' : (k : Int) < c.outs.length := by omega
    have hk1 : ((k + 1 : Nat) : Int) = (k : Int) + 1 := by omega
    have hrow := ints_at c.outs k hk
    have hdr : c.outs.drop k = c.outs[k] :: c.outs.drop (k + 1) := List.drop_eq_getElem_cons hk
    rw [hdr, List.all_cons]
    generalize c.outs[k] = o at *
    have hW := wire_eq o (c.inN + c.ops.length) true
    have hwo : wireM o (c.inN + c.ops.length) true = (decide (0 ≤ o) && decide (o < c.inN + c.ops.length)) := by simp [wireM]
    rw [← hwo]
    have hcb : codeBlk c = ⟨T.ty_api_Code, 3, true, [[.int .i64 c.inN, .rsl 4 (opRows c.ops), .rsl 1 (ints c.outs)]]⟩ := rfl
    cases hv : wireM o (c.inN + c.ops.length) true with
    | true =>
      rw [hv] at hW
      have st : ∃ y, isw_can.l1 isw_takes.spec isw_number.spec isw_wire.spec (AFr.al ([(1, .ptr 0 3 0 0), (72, .rsl 1 (ints c.outs)), (73, .int .i64 c.outs.length), (74, .int .i64 k)] ++ x)) X =
          some (.normal, AFr.al ([(1, .ptr 0 3 0 0), (72, .rsl 1 (ints c.outs)), (73, .int .i64 c.outs.length), (74, .int .i64 (k + 1 : Nat))] ++ y), X) := by
        refine ⟨?_, ?_⟩
        rotate_left
        · simp -implicitDefEqProofs +contextual (disch := try first | omega | assumption) [isw_can.l1, hg, hcb, hrow, hk', hk1, hW]
          rfl
      obtain ⟨y, s1⟩ := st
      obtain ⟨fr', p1, p2⟩ := ih (k + 1) y (by omega)
      simp only [Bool.true_and]
      exact ⟨fr', (aloop_step s1).trans p1, p2⟩
    | false =>
      rw [hv] at hW
      have st : ∃ fr1, isw_can.l1 isw_takes.spec isw_number.spec isw_wire.spec (AFr.al ([(1, .ptr 0 3 0 0), (72, .rsl 1 (ints c.outs)), (73, .int .i64 c.outs.length), (74, .int .i64 k)] ++ x)) X = some (.ret, fr1, X) ∧ fr1 2 = .bool false := by
        refine ⟨?_, ?_, ?_⟩
        rotate_left
        · simp -implicitDefEqProofs +contextual (disch := try first | omega | assumption) [isw_can.l1, hg, hcb, hrow, hk', hk1, hW]
          rfl
        · simp
      obtain ⟨fr1, s1, s2⟩ := st
      exact ⟨fr1, by rw [aloop_exit (by simp) s1]; simp, fun _ => s2⟩
theorem can_of (c : CodeM) (hl : c.ops.length ≤ 60000) (hin : 0 ≤ c.inN ∧ c.inN ≤ 4000) {X : AHeap} {r} (hr : aloop (isw_can.l0 isw_takes.spec isw_number.spec isw_wire.spec) (AFr.al [(1, .ptr 0 3 0 0), (23, .rsl 4 (opRows c.ops)), (24, .int .i64 c.ops.length), (25, .int .i64 0)]) X = r) (hw : X.WF) (hg : X.get 0 = some (codeBlk c)) :
    ∃ fr' X', r = some (if opsOk c.ops c.inN = true then .exit 0 else .ret, fr', X') ∧ (opsOk c.ops c.inN = true → fr' 1 = .ptr 0 3 0 0) ∧ (opsOk c.ops c.inN = false → fr' 2 = .bool false) ∧ X'.WF ∧ X'.get 0 = some (codeBlk c) := by
  obtain ⟨fr', X', p1, p2⟩ := can_loop c hl hin c.ops.length 0 X [] (by omega) hw hg
  simp only [List.drop_zero, Int.natCast_zero, Int.add_zero] at p1 p2
  exact ⟨fr', X', hr.symm.trans p1, p2⟩
theorem outs_of (c : CodeM) (hl : c.ops.length ≤ 60000) (hin : 0 ≤ c.inN ∧ c.inN ≤ 4000) (hb : c.outs.length ≤ 1000000000) {X : AHeap} {r} (hr : aloop (isw_can.l1 isw_takes.spec isw_number.spec isw_wire.spec) (AFr.al [(1, .ptr 0 3 0 0), (72, .rsl 1 (ints c.outs)), (73, .int .i64 c.outs.length), (74, .int .i64 0)]) X = r) (hg : X.get 0 = some (codeBlk c)) :
    ∃ fr', r = some (if c.outs.all (fun x => decide (0 ≤ x) && decide (x < c.inN + c.ops.length)) = true then .exit 2 else .ret, fr', X) ∧ (c.outs.all (fun x => decide (0 ≤ x) && decide (x < c.inN + c.ops.length)) = false → fr' 2 = .bool false) := by
  obtain ⟨fr', p1, p2⟩ := outs_loop c hl hin hb X hg c.outs.length 0 [] (by omega)
  simp only [List.drop_zero] at p1 p2
  exact ⟨fr', hr.symm.trans p1, p2⟩
set_option maxHeartbeats 4000000 in
theorem ican_eq (c : CodeM) (hb : c.outs.length ≤ 1000000000) (hb2 : c.ops.length ≤ 1000000000) : isw_can.spec [.agg c.cells] = some (.bool c.can) := by
  have hcb : codeBlk c = ⟨T.ty_api_Code, 3, true, [[.int .i64 c.inN, .rsl 4 (opRows c.ops), .rsl 1 (ints c.outs)]]⟩ := rfl
  unfold CodeM.cells CodeM.can
  by_cases h1 : 0 ≤ c.inN
  · have h1' : ¬ c.inN < 0 := by omega
    by_cases h2 : c.inN ≤ 4000
    · have h2' : ¬ 4000 < c.inN := by omega
      by_cases h3 : c.ops.length ≤ 60000
      · have h3' : ¬ (60000 : Int) < c.ops.length := by omega
        simp -implicitDefEqProofs +contextual (disch := omega) [isw_can.spec, isw_can, h1', h2', h3']
        generalize hr : aloop _ _ _ = r
        obtain ⟨fr', X', rfl, p2, p3, p4, p5⟩ := can_of c h3 ⟨h1, h2⟩ hr (by (repeat' (first | assumption | with_reducible apply AHeap.WF.push | with_reducible apply AHeap.WF.set | exact AHeap.WF.empty)) <;> (simp <;> omega)) (by simp [hcb])
        cases hv : opsOk c.ops c.inN with
        | true =>
          have p2 := p2 hv
          rw [hcb] at p5
          simp -implicitDefEqProofs +contextual (disch := omega) [p2, p5]
          generalize hr2 : aloop _ _ _ = r2
          obtain ⟨fr2, rfl, q2⟩ := outs_of c h3 ⟨h1, h2⟩ hb hr2 (by rw [hcb]; exact p5)
          cases hv2 : c.outs.all (fun x => decide (0 ≤ x) && decide (x < c.inN + c.ops.length)) with
          | true => simp -implicitDefEqProofs +contextual (disch := omega) [h1, h2, h3]
          | false => simp -implicitDefEqProofs +contextual (disch := omega) [h1, h2, h3, q2 hv2]
        | false => simp -implicitDefEqProofs +contextual (disch := omega) [h1, h2, h3, p3 hv]
      · have h3' : (60000 : Int) < c.ops.length := by omega
        simp -implicitDefEqProofs +contextual (disch := omega) [isw_can.spec, isw_can, h1', h2', h3', h3]
    · have h2' : 4000 < c.inN := by omega
      simp -implicitDefEqProofs +contextual (disch := omega) [isw_can.spec, isw_can, h1', h2', h2]
  · have h1' : c.inN < 0 := by omega
    simp -implicitDefEqProofs +contextual (disch := omega) [isw_can.spec, isw_can, h1', h1]
end Go.Abs
end
section
set_option linter.unusedSimpArgs false
set_option linter.unusedVariables false
namespace Go.Abs
theorem Can_eq' (c : CodeM) (hb : c.outs.length ≤ 1000000000) (hb2 : c.ops.length ≤ 1000000000) : isw_Can.spec [.agg c.cells] = some (.bool c.can) := by
  have h := ican_eq c hb hb2
  unfold CodeM.cells at h ⊢
  simp -implicitDefEqProofs +contextual (disch := omega) [isw_Can.spec, isw_Can, h]
end Go.Abs
end
section
set_option linter.unusedSimpArgs false
set_option linter.unusedVariables false
end
section
set_option linter.unusedSimpArgs false
set_option linter.unusedVariables false
end
section
set_option linter.unusedSimpArgs false
set_option linter.unusedVariables false
end
section
set_option linter.unusedSimpArgs false
set_option linter.unusedVariables false
end
