/-
  Wires' words: the program's function.
-/
import Derived.Test.YthignlpdeaglaaaJ3
set_option linter.unusedSimpArgs false
set_option linter.unusedVariables false
namespace Go.Abs
noncomputable abbrev exL0 := isw_Exec.l0 isw_can.spec isw_randoms.spec isw_takes.spec isw_step.spec
def exFr (ops : List OpM) (w t : List (BitVec 32)) (ob k : Nat) (x : List (Nat × AV)) : AFr :=
  AFr.al ([(2, .rsl 1 (w32s t)), (8, .sl ob 1 0 w.length), (37, .rsl 4 (opRows ops)), (38, .int .i64 ops.length), (39, .int .i64 k)] ++ x)
def wBlk (w : List (BitVec 32)) : Blk := ⟨T.ty_uint32, 1, true, w32s w⟩
theorem ex_round (ops : List OpM) (hl : ops.length ≤ 60000) (k : Nat) (hk : k < ops.length) (w t : List (BitVec 32)) (ob : Nat) (X : AHeap) (x : List (Nat × AV)) (hw : X.WF) (hb : X.get ob = some (wBlk w)) (hwl : w.length ≤ 70000) (o : OpM) (ho : ops[k] = o)
    (hok : o.ok w.length = true) (ht : o.k = 0 → 0 < t.length) :
    ∃ X1 ob' y, exL0 (exFr ops w t ob k x) X = some (.normal, exFr ops (w ++ [if o.k = 0 then at0 t 0 else stepW o (if 0 < takesM o.k then at0 w o.a.toNat else 0#32) (if 1 < takesM o.k then at0 w o.b.toNat else 0#32)]) (if o.k = 0 then t.tail else t) ob' (k + 1) y, X1) ∧
      X1.WF ∧ X1.get ob' = some (wBlk (w ++ [if o.k = 0 then at0 t 0 else stepW o (if 0 < takesM o.k then at0 w o.a.toNat else 0#32) (if 1 < takesM o.k then at0 w o.b.toNat else 0#32)])) := by
  have hk' : (k : Int) < ops.length := by omega
  have hk1 : ((k + 1 : Nat) : Int) = (k : Int) + 1 := by omega
  have hrow := opRows_get ops k hk
  rw [ho] at hrow
  have hbl := hw _ _ hb
  obtain ⟨ok, oa, obb, on⟩ := o
  simp only [OpM.cells] at hrow
  dsimp only at ht ⊢
  by_cases h0 : ok = 0
  · subst h0
    obtain ⟨t0, t, rfl⟩ : ∃ t0 t', t = t0 :: t' := by
      cases t with
      | nil => simp at ht
      | cons a l => exact ⟨a, l, rfl⟩
    simp only [if_true, List.tail_cons]
    refine ⟨?_, ?_, ?_, ?_, ?_, ?_⟩
    rotate_left; rotate_left; rotate_left
    · simp -implicitDefEqProofs +contextual (disch := try first | omega | assumption) [isw_Exec.l0, exFr, hb, wBlk, hrow, hk', hk1, w32s]
      constructor <;> rfl
    · (repeat' (first | assumption | with_reducible apply AHeap.WF.push | with_reducible apply AHeap.WF.set)) <;> (simp <;> omega)
    · simp (disch := omega) [wBlk, w32s, at0]
  · have hT := takes_eq ok
    have hS := fun a b => step_eq ⟨ok, oa, obb, on⟩ a b
    simp only [OpM.cells] at hS
    simp only [OpM.ok, Bool.and_eq_true, decide_eq_true_eq] at hok
    obtain ⟨⟨⟨⟨q1, q2⟩, q3⟩, q4⟩, q5⟩ := hok
    rw [if_neg h0, if_neg h0]
    have hcase : takesM ok = 0 ∨ takesM ok = 1 ∨ takesM ok = 2 := by
      unfold takesM; split
      · exact .inr (.inr rfl)
      · split
        · exact .inr (.inl rfl)
        · exact .inl rfl
    generalize takesM ok = tk at *
    generalize stepW ⟨ok, oa, obb, on⟩ = sw at *
    rcases hcase with rfl | rfl | rfl
    · have hA : True := trivial
      have hB : True := trivial
      have hv := hS 0#32 0#32
      rw [if_neg (by omega), if_neg (by omega)]
      generalize sw 0#32 0#32 = v at *
      refine ⟨?_, ?_, ?_, ?_, ?_, ?_⟩
      rotate_left; rotate_left; rotate_left
      · simp -implicitDefEqProofs +contextual (disch := try first | omega | assumption) [isw_Exec.l0, isw_Exec.l1, aloop_unroll, exFr, hb, wBlk, hrow, hk', hk1, h0, hT, hv, hA, hB]
        constructor <;> rfl
      · (repeat' (first | assumption | with_reducible apply AHeap.WF.push | with_reducible apply AHeap.WF.set)) <;> (simp <;> omega)
      · simp (disch := omega) [wBlk, w32s_snoc]
    · obtain ⟨A, rfl⟩ : ∃ A : Nat, oa = A := ⟨oa.toNat, by simp [wireM] at q4; omega⟩
      have hA : A < w.length := by simp [wireM] at q4; omega
      have hB : (A : Int) < w.length := by omega
      simp only [Int.toNat_natCast]
      have hv := hS (at0 w A) 0#32
      rw [if_pos (by omega), if_neg (by omega)]
      generalize sw (at0 w A) 0#32 = v at *
      refine ⟨?_, ?_, ?_, ?_, ?_, ?_⟩
      rotate_left; rotate_left; rotate_left
      · simp -implicitDefEqProofs +contextual (disch := try first | omega | assumption) [isw_Exec.l0, isw_Exec.l1, aloop_unroll, exFr, hb, wBlk, hrow, hk', hk1, h0, hT, hv, hA, hB]
        constructor <;> rfl
      · (repeat' (first | assumption | with_reducible apply AHeap.WF.push | with_reducible apply AHeap.WF.set)) <;> (simp <;> omega)
      · simp (disch := omega) [wBlk, w32s_snoc]
    · obtain ⟨A, rfl⟩ : ∃ A : Nat, oa = A := ⟨oa.toNat, by simp [wireM] at q4; omega⟩
      obtain ⟨B, rfl⟩ : ∃ B : Nat, obb = B := ⟨obb.toNat, by simp [wireM] at q5; omega⟩
      have hA : A < w.length ∧ B < w.length := by simp [wireM] at q4 q5; omega
      have hB : (A : Int) < w.length ∧ (B : Int) < w.length := by omega
      simp only [Int.toNat_natCast]
      have hv := hS (at0 w A) (at0 w B)
      rw [if_pos (by omega), if_pos (by omega)]
      generalize sw (at0 w A) (at0 w B) = v at *
      refine ⟨?_, ?_, ?_, ?_, ?_, ?_⟩
      rotate_left; rotate_left; rotate_left
      · simp -implicitDefEqProofs +contextual (disch := try first | omega | assumption) [isw_Exec.l0, isw_Exec.l1, aloop_unroll, exFr, hb, wBlk, hrow, hk', hk1, h0, hT, hv, hA, hB]
        constructor <;> rfl
      · (repeat' (first | assumption | with_reducible apply AHeap.WF.push | with_reducible apply AHeap.WF.set)) <;> (simp <;> omega)
      · simp (disch := omega) [wBlk, w32s_snoc]
theorem runOps_cons (o : OpM) (l : List OpM) (w t : List (BitVec 32)) : runOps (o :: l) w t =
    runOps l (w ++ [if o.k = 0 then at0 t 0 else stepW o (if 0 < takesM o.k then at0 w o.a.toNat else 0#32) (if 1 < takesM o.k then at0 w o.b.toNat else 0#32)]) (if o.k = 0 then t.tail else t) := by
  by_cases h : o.k = 0
  · rw [runOps, if_pos h, if_pos h, if_pos h]
  · rw [runOps, if_neg h, if_neg h, if_neg h]
theorem ex_loop (ops : List OpM) (hl : ops.length ≤ 60000) : ∀ (d k : Nat) (w t : List (BitVec 32)) (ob : Nat) (X : AHeap) (x : List (Nat × AV)), k + d = ops.length → w.length ≤ 4000 + k → opsOk (ops.drop k) w.length = true → rndL (ops.drop k) ≤ t.length → X.WF → X.get ob = some (wBlk w) →
    ∃ fr' X' ob', aloop exL0 (exFr ops w t ob k x) X = some (.exit 0, fr', X') ∧ fr' 8 = .sl ob' 1 0 (runOps (ops.drop k) w t).length ∧ X'.get ob' = some (wBlk (runOps (ops.drop k) w t)) := by
  intro d
  induction d with
  | zero =>
    intro k w t ob X x h hwl hok hr hw hb
    obtain rfl : k = ops.length := by omega
    rw [List.drop_length]
    refine ⟨_, _, ob, aloop_exit (by simp) (by simp -implicitDefEqProofs +contextual (disch := omega) [isw_Exec.l0, exFr]; exact ⟨rfl, rfl⟩), ?_, ?_⟩
    · simp [runOps]
    · simpa [runOps] using hb
  | succ d ih =>
    intro k w t ob X x h hwl hok hr hw hb
    have hk : k < ops.length := by omega
    have hdr : ops.drop k = ops[k] :: ops.drop (k + 1) := List.drop_eq_getElem_cons hk
    rw [hdr, opsOk_cons, Bool.and_eq_true] at hok
    rw [hdr, rndL_cons] at hr
    obtain ⟨X1, ob', y, s1, s2, s3⟩ := ex_round ops hl k hk w t ob X x hw hb (by omega) ops[k] rfl hok.1 (fun q => by rw [if_pos q] at hr; omega)
    obtain ⟨fr', X', ob2, p1, p2, p3⟩ := ih (k + 1) (w ++ [if ops[k].k = 0 then at0 t 0 else stepW ops[k] (if 0 < takesM ops[k].k then at0 w ops[k].a.toNat else 0#32) (if 1 < takesM ops[k].k then at0 w ops[k].b.toNat else 0#32)]) (if ops[k].k = 0 then t.tail else t) ob' X1 y (by omega) (by simp; omega) (by
        have := hok.2
        rw [List.length_append, List.length_singleton]
        have e : ((w.length + 1 : Nat) : Int) = (w.length : Int) + 1 := by omega
        rw [e]; exact this) (by
        by_cases q : ops[k].k = 0
        · rw [if_pos q] at hr ⊢; rw [List.length_tail]; omega
        · rw [if_neg q] at hr ⊢; omega) s2 s3
    refine ⟨fr', X', ob2, (aloop_step s1).trans p1, ?_, ?_⟩
    · rw [hdr, runOps_cons]; exact p2
    · rw [hdr, runOps_cons]; exact p3
end Go.Abs
