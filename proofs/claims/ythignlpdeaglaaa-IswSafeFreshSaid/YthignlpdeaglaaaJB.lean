import Derived.Test.YthignlpdeaglaaaJA
import Derived.Test.YthignlpdeaglaaaQI
import Derived.Test.YthignlpdeaglaaaSA
import Derived.Test.YthignlpdeaglaaaItF
section
set_option linter.unusedSimpArgs false
set_option linter.unusedVariables false
namespace Go.Abs
def Rw (X : AHeap) (mb : Nat) (ty : TypeId) (sz : Nat) (v : AV) (rows : List (List AV)) : Prop := (rows = [] ∧ v = .nils) ∨ ∃ ob, ob ≠ mb ∧ v = .sl ob sz 0 rows.length ∧ X.get ob = some ⟨ty, sz, true, rows⟩
def addO (k : Int) (l : List Int) : OpM := ⟨k, ati l 0, ati l 1, 0#32⟩
theorem add_run (X : AHeap) (hX : X.WF) (mb n : Nat) (hn : n ≤ 4000) (ops : List OpM) (hl : ops.length ≤ 60000) (k : Int) (l : List Int) (hll : l.length ≤ 2) (vo vu : AV) (fl : Bool) (ty : TypeId)
    (hg : X.get mb = some ⟨ty, 3, fl, [[.int .i64 n, vo, vu]]⟩) (ho : Rw X mb T.ty_api_Op 4 vo (opRows ops)) :
    ∃ X1 ob1 f1, isw_maker_add.spec [.ptr mb 3 0 0, .int .i64 k, .rsl 1 (ints l)] X = some (.int .i64 (n + ops.length : Nat), X1) ∧ X1.WF ∧ ob1 ≠ mb ∧ X.next ≤ ob1 ∧ X1.get mb = some ⟨ty, 3, f1, [[.int .i64 n, .sl ob1 4 0 (ops.length + 1), vu]]⟩ ∧
      X1.get ob1 = some ⟨T.ty_api_Op, 4, true, opRows (ops ++ [addO k l])⟩ ∧ X1.next = X.next + 3 ∧ (∀ c, c < X.next → c ≠ mb → (∀ ob, vo = .sl ob 4 0 ops.length → c ≠ ob) → X1.get c = X.get c) := by
  have hb := hX _ _ hg
  match l, hll with
  | [], _ =>
    rcases ho with ⟨h1, rfl⟩ | ⟨ob, h1, rfl, h3⟩
    · have hops : ops = [] := by simpa [opRows] using h1
      subst hops
      refine ⟨?_, X.next + 2, false, ?_, ?_, ?_, ?_, ?_, ?_, ?_, ?_⟩
      rotate_left
      · simp -implicitDefEqProofs +contextual (disch := try first | omega | assumption) [isw_maker_add.spec, isw_maker_add, isw_maker_add.l0, aloop_unroll, hg, ints]
        rfl
      · (repeat' (first | assumption | with_reducible apply AHeap.WF.push | with_reducible apply AHeap.WF.set)) <;> (simp <;> omega)
      · omega
      · omega
      · simp (disch := omega) []
      · simp (disch := omega) [addO, ati, opRows, OpM.cells]
      · simp
      · intro c q1 q2 _; simp (disch := omega) [q2]
    · have hob := hX _ _ h3
      refine ⟨?_, X.next + 2, false, ?_, ?_, ?_, ?_, ?_, ?_, ?_, ?_⟩
      rotate_left
      · simp -implicitDefEqProofs +contextual (disch := try first | omega | assumption) [isw_maker_add.spec, isw_maker_add, isw_maker_add.l0, aloop_unroll, hg, ints, h3]
        constructor
        · omega
        · rfl
      · (repeat' (first | assumption | with_reducible apply AHeap.WF.push | with_reducible apply AHeap.WF.set)) <;> (simp <;> omega)
      · omega
      · omega
      · simp (disch := omega) []
      · simp (disch := omega) [addO, ati, opRows, OpM.cells]
      · simp
      · intro c q1 q2 q3; have q4 := q3 ob (by simp [opRows]); simp (disch := omega) [q2, q4]
  | [a], _ =>
    rcases ho with ⟨h1, rfl⟩ | ⟨ob, h1, rfl, h3⟩
    · have hops : ops = [] := by simpa [opRows] using h1
      subst hops
      refine ⟨?_, X.next + 2, false, ?_, ?_, ?_, ?_, ?_, ?_, ?_, ?_⟩
      rotate_left
      · simp -implicitDefEqProofs +contextual (disch := try first | omega | assumption) [isw_maker_add.spec, isw_maker_add, isw_maker_add.l0, aloop_unroll, hg, ints]
        rfl
      · (repeat' (first | assumption | with_reducible apply AHeap.WF.push | with_reducible apply AHeap.WF.set)) <;> (simp <;> omega)
      · omega
      · omega
      · simp (disch := omega) []
      · simp (disch := omega) [addO, ati, opRows, OpM.cells]
      · simp
      · intro c q1 q2 _; simp (disch := omega) [q2]
    · have hob := hX _ _ h3
      refine ⟨?_, X.next + 2, false, ?_, ?_, ?_, ?_, ?_, ?_, ?_, ?_⟩
      rotate_left
      · simp -implicitDefEqProofs +contextual (disch := try first | omega | assumption) [isw_maker_add.spec, isw_maker_add, isw_maker_add.l0, aloop_unroll, hg, ints, h3]
        constructor
        · omega
        · rfl
      · (repeat' (first | assumption | with_reducible apply AHeap.WF.push | with_reducible apply AHeap.WF.set)) <;> (simp <;> omega)
      · omega
      · omega
      · simp (disch := omega) []
      · simp (disch := omega) [addO, ati, opRows, OpM.cells]
      · simp
      · intro c q1 q2 q3; have q4 := q3 ob (by simp [opRows]); simp (disch := omega) [q2, q4]
  | [a, b], _ =>
    rcases ho with ⟨h1, rfl⟩ | ⟨ob, h1, rfl, h3⟩
    · have hops : ops = [] := by simpa [opRows] using h1
      subst hops
      refine ⟨?_, X.next + 2, false, ?_, ?_, ?_, ?_, ?_, ?_, ?_, ?_⟩
      rotate_left
      · simp -implicitDefEqProofs +contextual (disch := try first | omega | assumption) [isw_maker_add.spec, isw_maker_add, isw_maker_add.l0, aloop_unroll, hg, ints]
        rfl
      · (repeat' (first | assumption | with_reducible apply AHeap.WF.push | with_reducible apply AHeap.WF.set)) <;> (simp <;> omega)
      · omega
      · omega
      · simp (disch := omega) []
      · simp (disch := omega) [addO, ati, opRows, OpM.cells]
      · simp
      · intro c q1 q2 _; simp (disch := omega) [q2]
    · have hob := hX _ _ h3
      refine ⟨?_, X.next + 2, false, ?_, ?_, ?_, ?_, ?_, ?_, ?_, ?_⟩
      rotate_left
      · simp -implicitDefEqProofs +contextual (disch := try first | omega | assumption) [isw_maker_add.spec, isw_maker_add, isw_maker_add.l0, aloop_unroll, hg, ints, h3]
        constructor
        · omega
        · rfl
      · (repeat' (first | assumption | with_reducible apply AHeap.WF.push | with_reducible apply AHeap.WF.set)) <;> (simp <;> omega)
      · omega
      · omega
      · simp (disch := omega) []
      · simp (disch := omega) [addO, ati, opRows, OpM.cells]
      · simp
      · intro c q1 q2 q3; have q4 := q3 ob (by simp [opRows]); simp (disch := omega) [q2, q4]
end Go.Abs
end
section
set_option linter.unusedSimpArgs false
set_option linter.unusedVariables false
namespace Go.Abs
structure MkI (fixed : List (Nat × Blk)) (mb n : Nat) (X : AHeap) (vo vu : AV) (ops : List OpM) (outs : List Int) : Prop where
  wf : X.WF
  fx : ∀ i x, (i, x) ∈ fixed → i ≠ mb ∧ X.get i = some x
  gm : ∃ f, X.get mb = some ⟨T.ty_isw_maker, 3, f, [[.int .i64 n, vo, vu]]⟩
  ro : Rl X (mb :: fixed.map (·.1)) T.ty_api_Op 4 vo (opRows ops)
  ru : Rl X (mb :: fixed.map (·.1)) T.ty_int 1 vu (ints outs)
theorem addO0 (k : Int) : addO k [] = ⟨k, 0, 0, 0#32⟩ := rfl
theorem addO2 (k a b : Int) : addO k [a, b] = ⟨k, a, b, 0#32⟩ := rfl
section
variable {fixed : List (Nat × Blk)} {mb n : Nat} {X : AHeap} {vo vu : AV} {ops : List OpM} {outs : List Int}
theorem MkI.tmp (h : MkI fixed mb n X vo vu ops outs) (b : Blk) : MkI fixed mb n ((X.push b).killAll [X.next]) vo vu ops outs := by
  have key : ∀ c x, X.get c = some x → ((X.push b).killAll [X.next]).get c = some x := fun c x hx => by
    have := h.wf _ _ hx
    simp only [AHeap.get_killAll, AHeap.get_push, List.mem_singleton]
    rw [if_neg (by omega), if_neg (by omega)]; exact hx
  refine ⟨killAll_wf (h.wf.push) _, fun i x hi => ⟨(h.fx i x hi).1, key _ _ (h.fx i x hi).2⟩, ?_, h.ro.lift fun ob _ q => key _ _ q, h.ru.lift fun ob _ q => key _ _ q⟩
  obtain ⟨f, hf⟩ := h.gm
  exact ⟨f, key _ _ hf⟩
theorem MkI.push (h : MkI fixed mb n X vo vu ops outs) (b : Blk) : MkI ((X.next, b) :: fixed) mb n (X.push b) vo vu ops outs := by
  have key : ∀ c x, X.get c = some x → c ≠ X.next ∧ (X.push b).get c = some x := fun c x hx => by
    have := h.wf _ _ hx
    simp only [AHeap.get_push]
    exact ⟨by omega, by rw [if_neg (by omega)]; exact hx⟩
  obtain ⟨f, hf⟩ := h.gm
  refine ⟨h.wf.push, fun i x hi => ?_, ⟨f, (key _ _ hf).2⟩, ?_, ?_⟩
  · rcases List.mem_cons.1 hi with q | q
    · cases q
      exact ⟨fun e => (key _ _ hf).1 e.symm, by simp⟩
    · exact ⟨(h.fx i x q).1, (key _ _ (h.fx i x q).2).2⟩
  · rcases h.ro with q | ⟨ob, q1, q2, q3⟩
    · exact .inl q
    · refine .inr ⟨ob, ?_, q2, (key _ _ q3).2⟩
      have := (key _ _ q3).1
      simp at q1 ⊢; exact ⟨q1.1, this, q1.2⟩
  · rcases h.ru with q | ⟨ob, q1, q2, q3⟩
    · exact .inl q
    · refine .inr ⟨ob, ?_, q2, (key _ _ q3).2⟩
      have := (key _ _ q3).1
      simp at q1 ⊢; exact ⟨q1.1, this, q1.2⟩
theorem MkI.add (h : MkI fixed mb n X vo vu ops outs) (hn : n ≤ 4000) (hl : ops.length ≤ 60000) (N : Int) (hN : (n : Int) + ops.length = N) (k : Int) (l : List Int) (hll : l.length ≤ 2) :
    ∃ X1 ob1, isw_maker_add.spec [.ptr mb 3 0 0, .int .i64 k, .rsl 1 (ints l)] X = some (.int .i64 N, X1) ∧ MkI fixed mb n X1 (.sl ob1 4 0 (ops.length + 1)) vu (ops ++ [addO k l]) outs ∧ X1.next = X.next + 3 := by
  have hN' : N = ((n + ops.length : Nat) : Int) := by omega
  subst hN'
  obtain ⟨f, hf⟩ := h.gm
  have hw : Rw X mb T.ty_api_Op 4 vo (opRows ops) := by
    rcases h.ro with q | ⟨ob, q1, q2, q3⟩
    · exact .inl q
    · exact .inr ⟨ob, fun e => q1 (by simp [e]), q2, q3⟩
  obtain ⟨X1, ob1, f1, h1, h2, h3, h4, h5, h6, h7, h8⟩ := add_run X h.wf mb n hn ops hl k l hll vo vu f _ hf hw
  have key : ∀ c x, X.get c = some x → c ≠ mb → (x.e ≠ T.ty_api_Op ∨ ∀ ob, vo = .sl ob 4 0 ops.length → c ≠ ob) → X1.get c = some x := fun c x hx hm hc => by
    rw [h8 c (h.wf _ _ hx) hm fun ob ho => ?_]
    · exact hx
    · rcases hc with hc | hc
      · intro e
        subst e
        rcases h.ro with ⟨q1, q2⟩ | ⟨ob, q1, q2, q3⟩
        · rw [q2] at ho; cases ho
        · rw [q2, opRows_length] at ho
          cases ho
          rw [q3] at hx
          cases hx
          exact hc rfl
      · exact hc ob ho
  refine ⟨X1, ob1, h1, ⟨h2, fun i x hi => ⟨(h.fx i x hi).1, key _ _ (h.fx i x hi).2 (h.fx i x hi).1 (.inr fun ob ho e => ?_)⟩, ⟨f1, h5⟩, .inr ⟨ob1, ?_, by simp, h6⟩, ?_⟩, h7⟩
  · rcases h.ro with ⟨q1, q2⟩ | ⟨ob2, q1, q2, q3⟩
    · rw [q2] at ho; cases ho
    · rw [q2, opRows_length] at ho
      cases ho
      subst e
      exact q1 (List.mem_cons_of_mem _ (List.mem_map.2 ⟨_, hi, rfl⟩))
  · intro q
    rcases List.mem_cons.1 q with q | q
    · exact h3 q
    · obtain ⟨⟨i, x⟩, q1, q2⟩ := List.mem_map.1 q
      have := h.wf _ _ (h.fx i x q1).2
      simp only at q2; omega
  · exact h.ru.lift fun ob q1 q2 => key _ _ q2 (fun e => q1 (by simp [e])) (.inl (by show T.ty_int ≠ T.ty_api_Op; decide))
theorem MkI.turn (h : MkI fixed mb n X vo vu ops outs) {ob : Nat} (hv : vu = .sl ob 1 0 outs.length) (i : Nat) (x : Int) (hi : i < outs.length) : MkI fixed mb n (X.set ob (some ⟨T.ty_int, 1, true, ints (outs.set i x)⟩)) vo vu ops (outs.set i x) := by
  rcases h.ru with ⟨q1, q2⟩ | ⟨ob', q1, q2, q3⟩
  · rw [q2] at hv; cases hv
  · rw [q2, ints_length] at hv
    cases hv
    have hb := h.wf _ _ q3
    obtain ⟨f, hf⟩ := h.gm
    refine ⟨h.wf.set hb, fun i x hi => ⟨(h.fx i x hi).1, ?_⟩, ⟨f, ?_⟩, h.ro.lift fun ob p1 p2 => ?_, .inr ⟨ob, q1, by rw [q2]; simp, by simp⟩⟩
    · rw [AHeap.get_set, if_neg fun e => q1 (by subst e; exact List.mem_cons_of_mem _ (List.mem_map.2 ⟨_, hi, rfl⟩))]; exact (h.fx i x hi).2
    · rw [AHeap.get_set, if_neg fun e => q1 (by simp [e])]; exact hf
    · rw [AHeap.get_set, if_neg fun e => ?_]
      · exact p2
      · subst e
        rw [q3] at p2
        exact absurd (congrArg Blk.e (Option.some.inj p2)) (by show T.ty_int ≠ T.ty_api_Op; decide)
theorem MkI.out (h : MkI fixed mb n X vo vu ops outs) (ho : 0 < outs.length) : ∃ ob, vu = .sl ob 1 0 outs.length ∧ X.get ob = some ⟨T.ty_int, 1, true, ints outs⟩ ∧ ob ≠ mb ∧ ∀ i x, (i, x) ∈ fixed → ob ≠ i := by
  rcases h.ru with ⟨q1, q2⟩ | ⟨ob', q1, q2, q3⟩
  · have := congrArg List.length q1; rw [ints_length] at this; simp at this; rw [this] at ho; simp at ho
  · refine ⟨ob', by simpa using q2, q3, fun e => q1 (by simp [e]), fun i x hi e => q1 (by subst e; exact List.mem_cons_of_mem _ (List.mem_map.2 ⟨_, hi, rfl⟩))⟩
theorem MkI.newouts (h : MkI fixed mb n X vo vu ops outs) {X' : AHeap} {nb : Nat} {outs' : List Int} {f' : Bool} (h1 : X.next ≤ nb) (hw : X'.WF) (hm : X'.get mb = some ⟨T.ty_isw_maker, 3, f', [[.int .i64 n, vo, .sl nb 1 0 outs'.length]]⟩)
    (hb : X'.get nb = some ⟨T.ty_int, 1, true, ints outs'⟩) (hk : ∀ c, c < X.next → c ≠ mb → (∀ ub, vu = .sl ub 1 0 outs.length → c ≠ ub) → X'.get c = X.get c) : MkI fixed mb n X' vo (.sl nb 1 0 outs'.length) ops outs' := by
  obtain ⟨f, hf⟩ := h.gm
  have hvu : ∀ ub, vu = .sl ub 1 0 outs.length → X.get ub = some ⟨T.ty_int, 1, true, ints outs⟩ ∧ ub ∉ mb :: fixed.map (·.1) := fun ub hu => by
    rcases h.ru with ⟨q1, q2⟩ | ⟨ob, q1, q2, q3⟩
    · rw [q2] at hu; cases hu
    · rw [q2, ints_length] at hu; cases hu; exact ⟨q3, q1⟩
  refine ⟨hw, fun i x hi => ⟨(h.fx i x hi).1, ?_⟩, ⟨f', hm⟩, h.ro.lift fun ob p1 p2 => ?_, .inr ⟨nb, fun e => ?_, by simp, hb⟩⟩
  · rw [hk i (h.wf _ _ (h.fx i x hi).2) (h.fx i x hi).1 fun ub hu e => (hvu ub hu).2 (by subst e; exact List.mem_cons_of_mem _ (List.mem_map.2 ⟨_, hi, rfl⟩))]
    exact (h.fx i x hi).2
  · rw [hk ob (h.wf _ _ p2) (fun e => p1 (by simp [e])) fun ub hu e => ?_]
    · exact p2
    · subst e
      rw [(hvu _ hu).1] at p2
      exact absurd (congrArg Blk.e (Option.some.inj p2)) (by show T.ty_int ≠ T.ty_api_Op; decide)
  · rcases List.mem_cons.1 e with q | q
    · have := h.wf _ _ hf; omega
    · obtain ⟨⟨i, x⟩, q1, q2⟩ := List.mem_map.1 q
      have := h.wf _ _ (h.fx i x q1).2
      simp only at q2; omega
end
structure GadB (d : Nat) (s : GadS) (m : Nat) : Prop where
  len : s.outs.length = d + 1
  nn : ∀ x ∈ s.outs, 0 ≤ x
  ops : s.ops.length ≤ m
theorem mem_set_of {α : Type} {l : List α} {i : Nat} {x y : α} (h : y ∈ l.set i x) : y = x ∨ y ∈ l := by
  rcases List.mem_or_eq_of_mem_set h with h | h
  · exact .inr h
  · exact .inl h
theorem GadB.pair {and : Bool} {d : Nat} {s : GadS} {m : Nat} (h : GadB d s m) (p : Nat × Nat) : GadB d (gadPair and d s p) (m + 7) := by
  have h1 := h.len
  have h2 := h.ops
  cases and with
  | true =>
    refine ⟨by simp [gadPair]; exact h1, fun x hx => ?_, by simp [gadPair]; omega⟩
    simp only [gadPair, if_true] at hx
    rcases mem_set_of hx with rfl | hx
    · omega
    · rcases mem_set_of hx with rfl | hx
      · omega
      · exact h.nn x hx
  | false =>
    refine ⟨by simp [gadPair]; exact h1, fun x hx => ?_, by simp [gadPair]; omega⟩
    simp only [gadPair, Bool.false_eq_true, if_false] at hx
    rcases mem_set_of hx with rfl | hx
    · omega
    · rcases mem_set_of hx with rfl | hx
      · omega
      · exact h.nn x hx
theorem GadB.pairs {and : Bool} {d : Nat} : ∀ (l : List (Nat × Nat)) (s : GadS) (m : Nat), GadB d s m → GadB d (l.foldl (gadPair and d) s) (m + 7 * l.length)
  | [], s, m, h => by simpa using h
  | p :: l, s, m, h => by
    have := GadB.pairs (and := and) l _ _ (h.pair (and := and) p)
    rw [List.foldl_cons, List.length_cons]
    exact ⟨this.len, this.nn, by have := this.ops; omega⟩
theorem pairsAV_eq (d : Nat) : pairsAV d = (pairsN d).map fun p => [.int .i64 (p.1 : Nat), .int .i64 (p.2 : Nat)] := by
  unfold pairsAV pairsN
  rw [List.map_flatMap]
  congr 1
  funext i
  simp [rowAV]
theorem pairsN_len (d : Nat) (h : d ≤ 6) : (pairsN d).length ≤ 21 := by
  have : d = 0 ∨ d = 1 ∨ d = 2 ∨ d = 3 ∨ d = 4 ∨ d = 5 ∨ d = 6 := by omega
  rcases this with rfl | rfl | rfl | rfl | rfl | rfl | rfl <;> decide
theorem order_eq (d : Int) : isw_order.spec [.int .i64 d] = some (.bool (decide (0 ≤ d) && decide (d ≤ 6))) := by
  by_cases h1 : 0 ≤ d
  · by_cases h2 : d ≤ 6
    · simp -implicitDefEqProofs +contextual (disch := omega) [isw_order.spec, isw_order, h1, h2]
    · simp -implicitDefEqProofs +contextual (disch := omega) [isw_order.spec, isw_order, h1, h2]
  · simp -implicitDefEqProofs +contextual (disch := omega) [isw_order.spec, isw_order, h1]
theorem pairs_run (X : AHeap) (d : Nat) : isw_pairs.spec [.int .i64 d] X = some (.clo 68 [] [.ptr X.next 1 0 0], X.push ⟨T.ty_int, 1, true, [[.int .i64 d]]⟩) := by
  simp -implicitDefEqProofs +contextual (disch := omega) [isw_pairs.spec, isw_pairs]
theorem pairs_it (X : AHeap) (b d : Nat) (hd : d ≤ 6) (h : X.get b = some ⟨T.ty_int, 1, true, [[.int .i64 d]]⟩) : isw_pairs_1.spec [.ptr b 1 0 0] X = some (pairsAV d) := by
  have e : isw_pairs_1.spec [.ptr b 1 0 0] X = if (0 : Int) ≤ d ∧ (d : Int) ≤ 6 then some (pairsAV (d : Int).toNat) else none := by
    simp only [isw_pairs_1.spec, h]
  rw [e, if_pos ⟨by omega, by omega⟩]
  simp
end Go.Abs
end
section
set_option linter.unusedSimpArgs false
set_option linter.unusedVariables false
namespace Go.Abs
noncomputable abbrev reL0 := isw_Refresh.l0 isw_order.spec isw_pairs.spec isw_maker_add.spec isw_pairs_1.spec
noncomputable abbrev reE0 := isw_Refresh.e0 isw_order.spec isw_pairs.spec isw_maker_add.spec isw_pairs_1.spec
theorem ati_int (l : List Int) (i : Nat) (h : ∀ x ∈ l, 0 ≤ x) : ((ati l i).toNat : Int) = ati l i := by
  refine Int.toNat_of_nonneg ?_
  unfold ati
  rw [List.getD_eq_getElem?_getD]
  cases hg : l[i]? with
  | none => simp
  | some x => exact h x (List.mem_of_getElem? hg)
theorem re_round (fixed : List (Nat × Blk)) (h2 : (2, ⟨T.ty_p_isw_maker, 1, false, [[.ptr 1 3 0 0]]⟩) ∈ fixed) (d : Nat) (hd : d ≤ 6) (i j : Nat) (hij : i < j) (hj : j < d + 1) (X : AHeap) (vo vu : AV) (s : GadS)
    (h : MkI fixed 1 (d + 1) X vo vu s.ops s.outs) (hl : s.outs.length = d + 1) (hn : ∀ x ∈ s.outs, 0 ≤ x) (hol : s.ops.length ≤ 1000) (fr : AFr) (h4 : fr 4 = .ptr 2 1 0 0) :
    ∃ fr' X' vo', reE0 (fr.puts [38, 39] [.int .i64 i, .int .i64 j]) X = some (.normal, fr', X') ∧ MkI fixed 1 (d + 1) X' vo' vu (gadPair false d s (i, j)).ops (gadPair false d s (i, j)).outs := by
  obtain ⟨ops, outs⟩ := s
  dsimp only at *
  have hi : i < outs.length := by omega
  have hj' : j < outs.length := by omega
  have hi' : (i : Int) < outs.length := by omega
  have hj'' : (j : Int) < outs.length := by omega
  have g2 := (h.fx _ _ h2).2
  obtain ⟨f, gm⟩ := h.gm
  obtain ⟨ub, rfl, gu, ub1, ub2⟩ := h.out (by omega)
  have ub3 := ub2 _ _ h2
  obtain ⟨N, hN⟩ : ∃ N : Int, ((d + 1 : Nat) : Int) + ops.length = N := ⟨_, rfl⟩
  obtain ⟨N1, hN1⟩ : ∃ N1 : Int, N1 = N + 1 := ⟨_, rfl⟩
  obtain ⟨N2, hN2⟩ : ∃ N2 : Int, N2 = N + 2 := ⟨_, rfl⟩
  obtain ⟨X1, o1, e1, I1, n1⟩ := h.add (by omega) (by omega) N hN 0 [] (by simp)
  obtain ⟨f1, gm1⟩ := I1.gm
  have g21 := (I1.fx _ _ h2).2
  obtain ⟨_, w1, gu1, _, _⟩ := I1.out (by omega)
  cases w1
  have w1 := I1.wf
  have I1' := I1.tmp ⟨T.ty_int, 1, true, ints [ati outs i, N]⟩
  obtain ⟨X2, o2, e2, I2, n2⟩ := I1'.add (by omega) (by simp; omega) N1 (by simp; omega) 2 [ati outs i, N] (by simp)
  have I3 := I2.turn rfl i N1 hi
  obtain ⟨f2, gm2⟩ := I2.gm
  have g22 := (I2.fx _ _ h2).2
  obtain ⟨_, w2, gu2, _, _⟩ := I2.out (by omega)
  cases w2
  have hnj : ati (outs.set i N1) j = ati outs j := by rw [ati_set _ _ _ _ hi, if_neg (by omega)]
  have w2 := I2.wf
  have w3 := I3.wf
  have hub : ub < X2.next := w2 _ _ gu2
  have I3' := I3.tmp ⟨T.ty_int, 1, true, ints [ati outs j, N]⟩
  obtain ⟨X4, o4, e4, I4, n4⟩ := I3'.add (by omega) (by simp; omega) N2 (by simp; omega) 2 [ati outs j, N] (by simp)
  have I5 := I4.turn (ob := ub) (by simp) j N2 (by simpa using hj')
  obtain ⟨f4, gm4⟩ := I4.gm
  have g24 := (I4.fx _ _ h2).2
  obtain ⟨_, w4, gu4, _, _⟩ := I4.out (by simp; omega)
  simp only [List.length_set, AV.sl.injEq, and_true] at w4
  subst w4
  have w4 := I4.wf
  simp only [ints0, ints1, ints2, next_killAll, AHeap.next_push, AHeap.next_set] at e1 e2 e4 n1 n2 n4
  refine ⟨?_, ?_, ?_, ?_, ?_⟩
  rotate_left; rotate_left; rotate_left
  · simp -implicitDefEqProofs +contextual (disch := try first | omega | assumption | (simp only [AHeap.next_push, AHeap.next_set, next_killAll]; omega)) [isw_Refresh.e0, athen, AFr.puts, AFr.upd, h4, g2, gm, gu, e1, gm1, g21, gu1, e2, gm2, g22, gu2, hi, hi', hj', hj'', san_wf, w1, w2, w3, w4, ub1, ub3, e4, gm4, g24, gu4, hnj]
    constructor <;> rfl
  · have e1 : (N : Int) = ((d + 1 + ops.length : Nat) : Int) := by omega
    have e : gadPair false d ⟨ops, outs⟩ (i, j) = ⟨ops ++ [addO 0 []] ++ [addO 2 [ati outs i, N]] ++ [addO 2 [ati outs j, N]], (outs.set i N1).set j N2⟩ := by
      unfold gadPair
      rw [hN2, hN1, e1]
      simp [addO0, addO2, opM, outN, gadIn, ati_int outs _ hn]
      try omega
    rw [e]
    exact I5
end Go.Abs
end
section
set_option linter.unusedSimpArgs false
set_option linter.unusedVariables false
namespace Go.Abs
noncomputable abbrev anL0 := isw_And.l0 isw_order.spec isw_maker_add.spec isw_pairs.spec isw_pairs_1.spec isw_And_1.spec
noncomputable abbrev anE0 := isw_And.e0 isw_order.spec isw_maker_add.spec isw_pairs.spec isw_pairs_1.spec isw_And_1.spec
theorem and1_eq (X : AHeap) (hX : X.WF) (d : Nat) (hd : d ≤ 6) (j : Nat) (hj : j ≤ 6) (N : Int) (hN : N = (d : Int) + 1 + j) (h : X.get 0 = some ⟨T.ty_int, 1, true, [[.int .i64 d]]⟩) : isw_And_1.spec [.int .i64 j, .ptr 0 1 0 0] X = some (.int .i64 N, X) := by
  subst hN
  have e : isw_And_1.spec [.int .i64 j, .ptr 0 1 0 0] X = forget X (some ([.int .i64 ((d : Int) + 1 + j)], X)) := by
    simp -implicitDefEqProofs +contextual (disch := omega) [isw_And_1.spec, isw_And_1, h]
  rw [e, forget_eq hX (Nat.le_refl _) (fun _ _ => rfl) rfl]
  rfl
def clo51 : Blk := ⟨T.ty_func_int_int, 1, false, [[.clo 51 [] [.ptr 0 1 0 0]]]⟩
theorem and_C (a : SpecP) (b c : SpecM) (d : SpecI) (e : SpecM) : isw_And.C a b c d e 51 = some (.ref [false] e) := by simp [isw_And.C, Tab.add]
set_option maxHeartbeats 4000000 in
theorem an_round (fixed : List (Nat × Blk)) (d : Nat) (h0 : (0, ⟨T.ty_int, 1, true, [[.int .i64 (d : Nat)]]⟩) ∈ fixed) (h3 : (3, ⟨T.ty_p_isw_maker, 1, false, [[.ptr 2 3 0 0]]⟩) ∈ fixed) (h4 : (4, clo51) ∈ fixed) (hd : d ≤ 6) (i j : Nat) (hij : i < j) (hj : j < d + 1) (X0 : AHeap) (vo vu : AV) (s : GadS)
    (I0 : MkI fixed 2 (2 * (d + 1)) X0 vo vu s.ops s.outs) (hl : s.outs.length = d + 1) (hn : ∀ x ∈ s.outs, 0 ≤ x) (hol : s.ops.length ≤ 1000) (fr : AFr) (f4 : fr 4 = .ptr 3 1 0 0) (f5 : fr 5 = .ptr 4 1 0 0) :
    ∃ fr' X' vo', anE0 (fr.puts [49, 50] [.int .i64 i, .int .i64 j]) X0 = some (.normal, fr', X') ∧ MkI fixed 2 (2 * (d + 1)) X' vo' vu (gadPair true d s (i, j)).ops (gadPair true d s (i, j)).outs := by
  obtain ⟨ops, outs⟩ := s
  dsimp only at *
  have hi : i < outs.length := by omega
  have hj' : j < outs.length := by omega
  have hi' : (i : Int) < outs.length := by omega
  have hj'' : (j : Int) < outs.length := by omega
  obtain ⟨ub, rfl, gu0, ub1, ub2⟩ := I0.out (by omega)
  have ub3 := ub2 _ _ h3
  have ub4 := ub2 _ _ h4
  have ub0 := ub2 _ _ h0
  obtain ⟨N, hN⟩ : ∃ N : Int, ((2 * (d + 1) : Nat) : Int) + ops.length = N := ⟨_, rfl⟩
  obtain ⟨N1, hN1⟩ : ∃ x : Int, x = N + 1 := ⟨_, rfl⟩
  obtain ⟨N2, hN2⟩ : ∃ x : Int, x = N + 2 := ⟨_, rfl⟩
  obtain ⟨N3, hN3⟩ : ∃ x : Int, x = N + 3 := ⟨_, rfl⟩
  obtain ⟨N4, hN4⟩ : ∃ x : Int, x = N + 4 := ⟨_, rfl⟩
  obtain ⟨N5, hN5⟩ : ∃ x : Int, x = N + 5 := ⟨_, rfl⟩
  obtain ⟨N6, hN6⟩ : ∃ x : Int, x = N + 6 := ⟨_, rfl⟩
  obtain ⟨Bj, hBj⟩ : ∃ x : Int, x = (d : Int) + 1 + j := ⟨_, rfl⟩
  obtain ⟨Bi, hBi⟩ : ∃ x : Int, x = (d : Int) + 1 + i := ⟨_, rfl⟩
  obtain ⟨fl0, gm0⟩ := I0.gm
  have g00 := (I0.fx _ _ h0).2
  have g30 := (I0.fx _ _ h3).2
  have g40 := (I0.fx _ _ h4).2
  have w0 := I0.wf
  have u0 : X0.get ub = some ⟨T.ty_int, 1, true, ints outs⟩ := by
    obtain ⟨_, q1, q2, _, _⟩ := I0.out (by first | omega | (simp; omega))
    simp only [List.length_set, AV.sl.injEq, and_true, true_and] at q1
    subst q1; exact q2
  simp only [clo51] at g40
  have hb0 := w0 _ _ u0
  obtain ⟨X1, o1, e1, I1, n1⟩ := I0.add (by omega) (by first | omega | (simp; omega)) N (by first | omega | (simp; omega)) 0 [] (by simp)
  simp only [ints0, ints1, ints2, next_killAll, AHeap.next_push, AHeap.next_set] at e1 n1
  obtain ⟨fl1, gm1⟩ := I1.gm
  have g01 := (I1.fx _ _ h0).2
  have g31 := (I1.fx _ _ h3).2
  have g41 := (I1.fx _ _ h4).2
  have w1 := I1.wf
  have u1 : X1.get ub = some ⟨T.ty_int, 1, true, ints outs⟩ := by
    obtain ⟨_, q1, q2, _, _⟩ := I1.out (by first | omega | (simp; omega))
    simp only [List.length_set, AV.sl.injEq, and_true, true_and] at q1
    subst q1; exact q2
  simp only [clo51] at g41
  have hb1 := w1 _ _ u1
  have c1 := and1_eq X1 w1 d hd j (by omega) Bj hBj g01
  have T2 := I1.tmp ⟨T.ty_int, 1, true, ints [(i : Int), Bj]⟩
  obtain ⟨X2, o2, e2, I2, n2⟩ := T2.add (by omega) (by first | omega | (simp; omega)) N1 (by first | omega | (simp; omega)) 1 [(i : Int), Bj] (by simp)
  simp only [ints0, ints1, ints2, next_killAll, AHeap.next_push, AHeap.next_set] at e2 n2
  obtain ⟨fl2, gm2⟩ := I2.gm
  have g02 := (I2.fx _ _ h0).2
  have g32 := (I2.fx _ _ h3).2
  have g42 := (I2.fx _ _ h4).2
  have w2 := I2.wf
  have u2 : X2.get ub = some ⟨T.ty_int, 1, true, ints outs⟩ := by
    obtain ⟨_, q1, q2, _, _⟩ := I2.out (by first | omega | (simp; omega))
    simp only [List.length_set, AV.sl.injEq, and_true, true_and] at q1
    subst q1; exact q2
  simp only [clo51] at g42
  have hb2 := w2 _ _ u2
  have T3 := I2.tmp ⟨T.ty_int, 1, true, ints [N, N1]⟩
  obtain ⟨X3, o3, e3, I3, n3⟩ := T3.add (by omega) (by first | omega | (simp; omega)) N2 (by first | omega | (simp; omega)) 2 [N, N1] (by simp)
  simp only [ints0, ints1, ints2, next_killAll, AHeap.next_push, AHeap.next_set] at e3 n3
  obtain ⟨fl3, gm3⟩ := I3.gm
  have g03 := (I3.fx _ _ h0).2
  have g33 := (I3.fx _ _ h3).2
  have g43 := (I3.fx _ _ h4).2
  have w3 := I3.wf
  have u3 : X3.get ub = some ⟨T.ty_int, 1, true, ints outs⟩ := by
    obtain ⟨_, q1, q2, _, _⟩ := I3.out (by first | omega | (simp; omega))
    simp only [List.length_set, AV.sl.injEq, and_true, true_and] at q1
    subst q1; exact q2
  simp only [clo51] at g43
  have hb3 := w3 _ _ u3
  have c3 := and1_eq X3 w3 d hd i (by omega) Bi hBi g03
  have T4 := I3.tmp ⟨T.ty_int, 1, true, ints [(j : Int), Bi]⟩
  obtain ⟨X4, o4, e4, I4, n4⟩ := T4.add (by omega) (by first | omega | (simp; omega)) N3 (by first | omega | (simp; omega)) 1 [(j : Int), Bi] (by simp)
  simp only [ints0, ints1, ints2, next_killAll, AHeap.next_push, AHeap.next_set] at e4 n4
  obtain ⟨fl4, gm4⟩ := I4.gm
  have g04 := (I4.fx _ _ h0).2
  have g34 := (I4.fx _ _ h3).2
  have g44 := (I4.fx _ _ h4).2
  have w4 := I4.wf
  have u4 : X4.get ub = some ⟨T.ty_int, 1, true, ints outs⟩ := by
    obtain ⟨_, q1, q2, _, _⟩ := I4.out (by first | omega | (simp; omega))
    simp only [List.length_set, AV.sl.injEq, and_true, true_and] at q1
    subst q1; exact q2
  simp only [clo51] at g44
  have hb4 := w4 _ _ u4
  have T5 := I4.tmp ⟨T.ty_int, 1, true, ints [N2, N3]⟩
  obtain ⟨X5, o5, e5, I5, n5⟩ := T5.add (by omega) (by first | omega | (simp; omega)) N4 (by first | omega | (simp; omega)) 2 [N2, N3] (by simp)
  simp only [ints0, ints1, ints2, next_killAll, AHeap.next_push, AHeap.next_set] at e5 n5
  obtain ⟨fl5, gm5⟩ := I5.gm
  have g05 := (I5.fx _ _ h0).2
  have g35 := (I5.fx _ _ h3).2
  have g45 := (I5.fx _ _ h4).2
  have w5 := I5.wf
  have u5 : X5.get ub = some ⟨T.ty_int, 1, true, ints outs⟩ := by
    obtain ⟨_, q1, q2, _, _⟩ := I5.out (by first | omega | (simp; omega))
    simp only [List.length_set, AV.sl.injEq, and_true, true_and] at q1
    subst q1; exact q2
  simp only [clo51] at g45
  have hb5 := w5 _ _ u5
  have T6 := I5.tmp ⟨T.ty_int, 1, true, ints [ati outs i, N]⟩
  obtain ⟨X6, o6, e6, I6, n6⟩ := T6.add (by omega) (by first | omega | (simp; omega)) N5 (by first | omega | (simp; omega)) 2 [ati outs i, N] (by simp)
  simp only [ints0, ints1, ints2, next_killAll, AHeap.next_push, AHeap.next_set] at e6 n6
  obtain ⟨fl6, gm6⟩ := I6.gm
  have g06 := (I6.fx _ _ h0).2
  have g36 := (I6.fx _ _ h3).2
  have g46 := (I6.fx _ _ h4).2
  have w6 := I6.wf
  have u6 : X6.get ub = some ⟨T.ty_int, 1, true, ints outs⟩ := by
    obtain ⟨_, q1, q2, _, _⟩ := I6.out (by first | omega | (simp; omega))
    simp only [List.length_set, AV.sl.injEq, and_true, true_and] at q1
    subst q1; exact q2
  simp only [clo51] at g46
  have hb6 := w6 _ _ u6
  have I6' := I6.turn (ob := ub) rfl i N5 hi
  have w6' := I6'.wf
  have hnj : ati (outs.set i N5) j = ati outs j := by rw [ati_set _ _ _ _ hi, if_neg (by omega)]
  have T7 := I6'.tmp ⟨T.ty_int, 1, true, ints [ati outs j, N4]⟩
  obtain ⟨X7, o7, e7, I7, n7⟩ := T7.add (by omega) (by first | omega | (simp; omega)) N6 (by first | omega | (simp; omega)) 2 [ati outs j, N4] (by simp)
  simp only [ints0, ints1, ints2, next_killAll, AHeap.next_push, AHeap.next_set] at e7 n7
  obtain ⟨fl7, gm7⟩ := I7.gm
  have g07 := (I7.fx _ _ h0).2
  have g37 := (I7.fx _ _ h3).2
  have g47 := (I7.fx _ _ h4).2
  have w7 := I7.wf
  have u7 : X7.get ub = some ⟨T.ty_int, 1, true, ints (outs.set i N5)⟩ := by
    obtain ⟨_, q1, q2, _, _⟩ := I7.out (by first | omega | (simp; omega))
    simp only [List.length_set, AV.sl.injEq, and_true, true_and] at q1
    subst q1; exact q2
  simp only [clo51] at g47
  have hb7 := w7 _ _ u7
  have I8 := I7.turn (ob := ub) (by simp) j N6 (by simpa using hj')
  refine ⟨?_, ?_, ?_, ?_, ?_⟩
  rotate_left; rotate_left; rotate_left
  · simp -implicitDefEqProofs +contextual (disch := try first | omega | assumption | (simp only [AHeap.next_push, AHeap.next_set, next_killAll]; omega)) [isw_And.e0, athen, AFr.puts, AFr.upd, f4, f5, acallClo, acallR, and_C, hi, hi', hj', hj'', san_wf, ub0, ub1, ub3, ub4, gm0, g00, g30, g40, u0, e1, gm1, g01, g31, g41, u1, c1, e2, gm2, g02, g32, g42, u2, e3, gm3, g03, g33, g43, u3, c3, e4, gm4, g04, g34, g44, u4, e5, gm5, g05, g35, g45, u5, e6, gm6, g06, g36, g46, u6, hnj, e7, gm7, g07, g37, g47, u7]
    constructor <;> rfl
  · have e1 : N = ((2 * (d + 1) + ops.length : Nat) : Int) := by omega
    have e : gadPair true d ⟨ops, outs⟩ (i, j) = ⟨(((((((ops ++ [addO 0 []]) ++ [addO 1 [(i : Int), Bj]]) ++ [addO 2 [N, N1]]) ++ [addO 1 [(j : Int), Bi]]) ++ [addO 2 [N2, N3]]) ++ [addO 2 [ati outs i, N]]) ++ [addO 2 [ati outs j, N4]]), (outs.set i N5).set j N6⟩ := by
      unfold gadPair
      rw [hBi, hBj, hN6, hN5, hN4, hN3, hN2, hN1, e1]
      simp [addO0, addO2, opM, outN, gadIn, ati_int outs _ hn]
      try omega
    rw [e]
    exact I8
end Go.Abs
end
section
set_option linter.unusedSimpArgs false
set_option linter.unusedVariables false
namespace Go.Abs
def resBlk : Blk := ⟨T.ty_api_Code, 3, true, [[.int .i64 0, .nils, .nils]]⟩
def reFx : List (Nat × Blk) := [(0, resBlk), (2, ⟨T.ty_p_isw_maker, 1, false, [[.ptr 1 3 0 0]]⟩)]
def reFr (d k : Nat) (x : List (Nat × AV)) : AFr := AFr.al ([(0, .int .i64 d), (2, .ptr 0 3 0 0), (4, .ptr 2 1 0 0), (19, .int .i64 ((d : Int) + 1)), (20, .int .i64 k)] ++ x)
theorem re_diag (d : Nat) (hd : d ≤ 6) (k : Nat) (hk : k < d + 1) (X : AHeap) (vo vu : AV) (ops : List OpM) (outs : List Int) (h : MkI reFx 1 (d + 1) X vo vu ops outs) (hol : outs.length ≤ 100) (x : List (Nat × AV)) :
    ∃ y X' vu', reL0 (reFr d k x) X = some (.normal, reFr d (k + 1) y, X') ∧ MkI reFx 1 (d + 1) X' vo vu' ops (outs ++ [(k : Int)]) := by
  have hk' : (k : Int) < (d : Int) + 1 := by omega
  have hk1 : ((k + 1 : Nat) : Int) = (k : Int) + 1 := by omega
  have hw := h.wf
  have g2 := (h.fx 2 ⟨T.ty_p_isw_maker, 1, false, [[.ptr 1 3 0 0]]⟩ (by simp [reFx])).2
  obtain ⟨f, gm⟩ := h.gm
  have b1 := hw _ _ gm
  have b2 := hw _ _ g2
  rcases h.ru with ⟨q1, rfl⟩ | ⟨ub, q1, rfl, gu⟩
  · have hz : outs = [] := by simpa [ints] using q1
    subst hz
    refine ⟨?_, ?_, ?_, ?_, ?_⟩
    rotate_left; rotate_left; rotate_left
    · simp -implicitDefEqProofs +contextual (disch := try first | omega | assumption) [isw_Refresh.l0, reFr, hk', hk1, g2, gm, san_wf]
      constructor <;> rfl
    · refine h.newouts (nb := X.next + 1) (outs' := [(k : Int)]) (f' := false) (by omega) ?_ ?_ ?_ ?_
      · (repeat' (first | assumption | with_reducible apply AHeap.WF.push | with_reducible apply AHeap.WF.set)) <;> (simp <;> omega)
      · simp (disch := omega) [ints1]
      · simp (disch := omega) [ints1]
      · intro c c1 c2 c3; simp (disch := omega) [c2]
  · simp only [reFx, List.map_cons, List.map_nil, List.mem_cons, List.not_mem_nil, or_false, not_or] at q1
    obtain ⟨q0, q1, q2⟩ := q1
    have b3 := hw _ _ gu
    refine ⟨?_, ?_, ?_, ?_, ?_⟩
    rotate_left; rotate_left; rotate_left
    · simp -implicitDefEqProofs +contextual (disch := try first | omega | assumption) [isw_Refresh.l0, reFr, hk', hk1, g2, gm, san_wf, gu, q0, q2]
      constructor <;> rfl
    · refine h.newouts (nb := X.next + 1) (outs' := outs ++ [(k : Int)]) (f' := false) (by omega) ?_ ?_ ?_ ?_
      · (repeat' (first | assumption | with_reducible apply AHeap.WF.push | with_reducible apply AHeap.WF.set)) <;> (simp <;> omega)
      · simp (disch := omega) [ints_snoc]
      · simp (disch := omega) [ints_snoc]
      · intro c c1 c2 c3; have c4 := c3 ub (by simp); simp (disch := omega) [c2, c4]
theorem re_diags (d : Nat) (hd : d ≤ 6) (ops : List OpM) : ∀ (m k : Nat) (X : AHeap) (vo vu : AV) (x : List (Nat × AV)), k + m = d + 1 → MkI reFx 1 (d + 1) X vo vu ops ((List.range k).map fun i : Nat => (i : Int)) →
    ∃ fr' X' vu', aloop reL0 (reFr d k x) X = some (.exit 0, fr', X') ∧ fr' 0 = .int .i64 d ∧ fr' 2 = .ptr 0 3 0 0 ∧ fr' 4 = .ptr 2 1 0 0 ∧ MkI reFx 1 (d + 1) X' vo vu' ops ((List.range (d + 1)).map fun i : Nat => (i : Int)) := by
  intro m
  induction m with
  | zero =>
    intro k X vo vu x hk h
    obtain rfl : k = d + 1 := by omega
    refine ⟨_, X, vu, aloop_exit (by simp) (by simp -implicitDefEqProofs +contextual (disch := omega) [isw_Refresh.l0, reFr]; rfl), ?_, ?_, ?_, h⟩ <;> simp
  | succ m ih =>
    intro k X vo vu x hk h
    obtain ⟨y, X1, vu1, s1, s2⟩ := re_diag d hd k (by omega) X vo vu ops _ h (by simp; omega) x
    obtain ⟨fr', X', vu', p1, p2⟩ := ih (k + 1) X1 vo vu1 y (by omega) (by rw [List.range_succ, List.map_append]; exact s2)
    exact ⟨fr', X', vu', (aloop_step s1).trans p1, p2⟩
theorem re_pairs (fixed : List (Nat × Blk)) (h2 : (2, ⟨T.ty_p_isw_maker, 1, false, [[.ptr 1 3 0 0]]⟩) ∈ fixed) (d : Nat) (hd : d ≤ 6) (b : Nat) (hb : (b, ⟨T.ty_int, 1, true, [[.int .i64 d]]⟩) ∈ fixed) (X : AHeap) (vo vu : AV) (s : GadS) (h : MkI fixed 1 (d + 1) X vo vu s.ops s.outs) (m : Nat) (hm : m ≤ 100) (hB : GadB d s m) (fr : AFr) (f4 : fr 4 = .ptr 2 1 0 0) :
    ∃ X' vo', arange (isw_Refresh.C isw_order.spec isw_pairs.spec isw_maker_add.spec isw_pairs_1.spec) (.clo 68 [] [.ptr b 1 0 0]) [38, 39] reE0 fr X = some (.normal, fr, X') ∧
      MkI fixed 1 (d + 1) X' vo' vu ((pairsN d).foldl (gadPair false d) s).ops ((pairsN d).foldl (gadPair false d) s).outs := by
  have hC : (isw_Refresh.C isw_order.spec isw_pairs.spec isw_maker_add.spec isw_pairs_1.spec) 68 = some (.iter isw_pairs_1.spec) := by simp [isw_Refresh.C, Tab.add]
  have hlen := pairsN_len d hd
  have hlt := pairsN_lt d
  have hl : (pairsAV d).all (fun x => x.length == [38, 39].length && x.all AV.isLit) = true := by
    rw [pairsAV_eq, List.all_map, List.all_eq_true]; intro p _; simp [AV.isLit]
  rw [arange_iter hC (pairs_it X b d hd (h.fx _ _ hb).2) hl]
  have hal : (pairsAV d).length = (pairsN d).length := by rw [pairsAV_eq, List.length_map]
  obtain ⟨H', h1, h3⟩ := aeach_go (spec := isw_pairs_1.spec) (caps := [.ptr b 1 0 0]) (all := pairsAV d) (round := fun x H => reE0 (fr.puts [38, 39] x) H) (fr := fr) (H := X)
    (fun k H => ∃ vo, MkI fixed 1 (d + 1) H vo vu (((pairsN d).take k).foldl (gadPair false d) s).ops (((pairsN d).take k).foldl (gadPair false d) s).outs)
    (fun k H ⟨vo, hI⟩ => pairs_it H b d hd (hI.fx _ _ hb).2)
    (fun k x H hx ⟨vo, hI⟩ => by
      have hk : k < (pairsN d).length := by
        have := (List.getElem?_eq_some_iff.1 hx).1; omega
      rw [pairsAV_eq, List.getElem?_map, List.getElem?_eq_getElem hk] at hx
      simp only [Option.map_some, Option.some.injEq] at hx
      subst hx
      obtain ⟨q1, q2⟩ := hlt _ (List.getElem_mem hk)
      have hB2 := GadB.pairs (and := false) ((pairsN d).take k) s m hB
      have hops := hB2.ops
      rw [List.length_take] at hops
      obtain ⟨fr', X', vo', r1, r2⟩ := re_round fixed h2 d hd (pairsN d)[k].1 (pairsN d)[k].2 q1 q2 H vo vu _ hI hB2.len hB2.nn (by omega) fr f4
      refine ⟨fr', X', r1, vo', ?_⟩
      rw [List.take_succ_eq_append_getElem hk, List.foldl_append]
      exact r2) ⟨vo, by simpa using h⟩
  rw [hal, List.take_length] at h3
  obtain ⟨vo', h3⟩ := h3
  exact ⟨H', vo', h1, h3⟩
theorem opRows_all (l : List OpM) : (opRows l).take l.length = opRows l := by rw [← opRows_length l, List.take_length]
theorem gadDiags_fresh (d : Nat) : ∀ n, (List.range n).foldl (gadDiag false d) ⟨[], []⟩ = ⟨[], (List.range n).map fun i : Nat => (i : Int)⟩
  | 0 => rfl
  | n + 1 => by rw [List.range_succ, List.foldl_append, gadDiags_fresh d n]; simp [gadDiag]
set_option maxHeartbeats 4000000 in
theorem Refresh_eq (d : Nat) (hd : d ≤ 6) : isw_Refresh.spec [.int .i64 d] = some (.tup [.agg (gadC false d).cells, .int .i64 0]) := by
  have hO := order_eq d
  rw [decide_eq_true (by omega), decide_eq_true (by omega)] at hO
  simp -implicitDefEqProofs +contextual (disch := omega) [isw_Refresh.spec, isw_Refresh, hO]
  generalize hX : AHeap.set _ _ _ = X
  have hI : MkI reFx 1 (d + 1) X .nils .nils [] ((List.range 0).map fun i : Nat => (i : Int)) := by
    subst hX
    refine ⟨?_, ?_, ⟨true, by simp (disch := omega)⟩, .inl ⟨rfl, rfl⟩, .inl ⟨rfl, rfl⟩⟩
    · (repeat' (first | assumption | with_reducible apply AHeap.WF.push | with_reducible apply AHeap.WF.set | exact AHeap.WF.empty)) <;> (simp <;> omega)
    · intro i x hi
      simp only [reFx, List.mem_cons, List.not_mem_nil, or_false, Prod.mk.injEq] at hi
      rcases hi with ⟨rfl, rfl⟩ | ⟨rfl, rfl⟩ <;> simp [resBlk]
  clear hX
  generalize hr : aloop _ _ _ = r
  obtain ⟨fr', X1, vu1, p1, p2, p3, p4, I1⟩ := re_diags d hd [] (d + 1) 0 X .nils .nils [] (by omega) hI
  have hr2 : r = some (.exit 0, fr', X1) := hr.symm.trans p1
  subst hr2
  have hP := pairs_run X1 d
  simp -implicitDefEqProofs +contextual (disch := omega) [p2, p3, p4, hP]
  have I2 := I1.push ⟨T.ty_int, 1, true, [[.int .i64 d]]⟩
  have hB0 : GadB d ⟨[], (List.range (d + 1)).map fun i : Nat => (i : Int)⟩ 0 := ⟨by simp, by intro x hx; simp at hx; obtain ⟨a, _, rfl⟩ := hx; omega, by simp⟩
  obtain ⟨X2, vo2, e2, I3⟩ := re_pairs _ (by simp [reFx]) d hd X1.next (by simp) _ .nils vu1 ⟨[], (List.range (d + 1)).map fun i : Nat => (i : Int)⟩ I2 0 (by omega) hB0 (AFr.al [(2, .ptr 0 3 0 0), (4, .ptr 2 1 0 0), (37, .clo 68 [] [.ptr X1.next 1 0 0])]) (by simp)
  rw [e2]
  have hg : gadS false d = (pairsN d).foldl (gadPair false d) ⟨[], (List.range (d + 1)).map fun i : Nat => (i : Int)⟩ := by unfold gadS; rw [gadDiags_fresh]
  have hB2 := GadB.pairs (and := false) (pairsN d) _ _ hB0
  have hc : (gadC false d).cells = [.int .i64 (d + 1 : Nat), .rsl 4 (opRows (gadS false d).ops), .rsl 1 (ints (gadS false d).outs)] := rfl
  rw [← hg] at I3 hB2
  rw [hc]
  generalize gadS false d = s at *
  have ho := hB2.len
  have hn := pairsN_len d hd
  have hp := hB2.ops
  obtain ⟨f, gm⟩ := I3.gm
  have g0 := (I3.fx 0 resBlk (by simp [reFx])).2
  have g2 := (I3.fx 2 ⟨T.ty_p_isw_maker, 1, false, [[.ptr 1 3 0 0]]⟩ (by simp [reFx])).2
  obtain ⟨ub, rfl, gu, u1, u2⟩ := I3.out (by omega)
  have u0 := u2 0 resBlk (by simp [reFx])
  simp only [resBlk] at g0
  rcases I3.ro with ⟨q1, rfl⟩ | ⟨ob, q1, rfl, go⟩
  · have hz : s.ops = [] := by simpa [opRows] using q1
    simp -implicitDefEqProofs +contextual (disch := omega) [gm, g0, g2, gu, u0, hz, opRows]
  · have q0 : ob ≠ 0 := fun e => q1 (by simp [e, reFx])
    simp -implicitDefEqProofs +contextual (disch := omega) [gm, g0, g2, gu, u0, go, q0, opRows_all]
end Go.Abs
end
section
set_option linter.unusedSimpArgs false
set_option linter.unusedVariables false
namespace Go.Abs
def anFx (d : Nat) : List (Nat × Blk) := [(0, ⟨T.ty_int, 1, true, [[.int .i64 d]]⟩), (1, resBlk), (3, ⟨T.ty_p_isw_maker, 1, false, [[.ptr 2 3 0 0]]⟩), (4, clo51)]
def anFr (d k : Nat) (x : List (Nat × AV)) : AFr := AFr.al ([(1, .ptr 0 1 0 0), (2, .ptr 1 3 0 0), (4, .ptr 3 1 0 0), (5, .ptr 4 1 0 0), (24, .int .i64 ((d : Int) + 1)), (25, .int .i64 k)] ++ x)
theorem an_pairs (fixed : List (Nat × Blk)) (d : Nat) (hd : d ≤ 6) (h0 : (0, ⟨T.ty_int, 1, true, [[.int .i64 d]]⟩) ∈ fixed) (h3 : (3, ⟨T.ty_p_isw_maker, 1, false, [[.ptr 2 3 0 0]]⟩) ∈ fixed) (h4 : (4, clo51) ∈ fixed) (b : Nat) (hb : (b, ⟨T.ty_int, 1, true, [[.int .i64 d]]⟩) ∈ fixed) (X : AHeap) (vo vu : AV) (s : GadS) (h : MkI fixed 2 (2 * (d + 1)) X vo vu s.ops s.outs) (m : Nat) (hm : m ≤ 100) (hB : GadB d s m) (fr : AFr) (f4 : fr 4 = .ptr 3 1 0 0) (f5 : fr 5 = .ptr 4 1 0 0) :
    ∃ X' vo', arange (isw_And.C isw_order.spec isw_maker_add.spec isw_pairs.spec isw_pairs_1.spec isw_And_1.spec) (.clo 68 [] [.ptr b 1 0 0]) [49, 50] anE0 fr X = some (.normal, fr, X') ∧
      MkI fixed 2 (2 * (d + 1)) X' vo' vu ((pairsN d).foldl (gadPair true d) s).ops ((pairsN d).foldl (gadPair true d) s).outs := by
  have hC : (isw_And.C isw_order.spec isw_maker_add.spec isw_pairs.spec isw_pairs_1.spec isw_And_1.spec) 68 = some (.iter isw_pairs_1.spec) := by simp [isw_And.C, Tab.add]
  have hlen := pairsN_len d hd
  have hlt := pairsN_lt d
  have hl : (pairsAV d).all (fun x => x.length == [49, 50].length && x.all AV.isLit) = true := by
    rw [pairsAV_eq, List.all_map, List.all_eq_true]; intro p _; simp [AV.isLit]
  rw [arange_iter hC (pairs_it X b d hd (h.fx _ _ hb).2) hl]
  have hal : (pairsAV d).length = (pairsN d).length := by rw [pairsAV_eq, List.length_map]
  obtain ⟨H', h1, h3'⟩ := aeach_go (spec := isw_pairs_1.spec) (caps := [.ptr b 1 0 0]) (all := pairsAV d) (round := fun x H => anE0 (fr.puts [49, 50] x) H) (fr := fr) (H := X)
    (fun k H => ∃ vo, MkI fixed 2 (2 * (d + 1)) H vo vu (((pairsN d).take k).foldl (gadPair true d) s).ops (((pairsN d).take k).foldl (gadPair true d) s).outs)
    (fun k H ⟨vo, hI⟩ => pairs_it H b d hd (hI.fx _ _ hb).2)
    (fun k x H hx ⟨vo, hI⟩ => by
      have hk : k < (pairsN d).length := by
        have := (List.getElem?_eq_some_iff.1 hx).1; omega
      rw [pairsAV_eq, List.getElem?_map, List.getElem?_eq_getElem hk] at hx
      simp only [Option.map_some, Option.some.injEq] at hx
      subst hx
      obtain ⟨q1, q2⟩ := hlt _ (List.getElem_mem hk)
      have hB2 := GadB.pairs (and := true) ((pairsN d).take k) s m hB
      have hops := hB2.ops
      rw [List.length_take] at hops
      obtain ⟨fr', X', vo', r1, r2⟩ := an_round fixed d h0 h3 h4 hd (pairsN d)[k].1 (pairsN d)[k].2 q1 q2 H vo vu _ hI hB2.len hB2.nn (by omega) fr f4 f5
      refine ⟨fr', X', r1, vo', ?_⟩
      rw [List.take_succ_eq_append_getElem hk, List.foldl_append]
      exact r2) ⟨vo, by simpa using h⟩
  rw [hal, List.take_length] at h3'
  obtain ⟨vo', h3'⟩ := h3'
  exact ⟨H', vo', h1, h3'⟩
theorem an_diag (d : Nat) (hd : d ≤ 6) (k : Nat) (hk : k < d + 1) (X : AHeap) (vo vu : AV) (ops : List OpM) (outs : List Int) (h : MkI (anFx d) 2 (2 * (d + 1)) X vo vu ops outs) (hops : ops.length ≤ 100) (hol : outs.length ≤ 100) (x : List (Nat × AV)) :
    ∃ y X' vo' vu', anL0 (anFr d k x) X = some (.normal, anFr d (k + 1) y, X') ∧ MkI (anFx d) 2 (2 * (d + 1)) X' vo' vu' (ops ++ [opM 1 k (d + 1 + k)]) (outs ++ [((2 * (d + 1) + ops.length : Nat) : Int)]) := by
  have hk' : (k : Int) < (d : Int) + 1 := by omega
  have hk1 : ((k + 1 : Nat) : Int) = (k : Int) + 1 := by omega
  obtain ⟨N, hN⟩ : ∃ N : Int, ((2 * (d + 1) : Nat) : Int) + ops.length = N := ⟨_, rfl⟩
  have hN' : ((2 * (d + 1) + ops.length : Nat) : Int) = N := by omega
  obtain ⟨B, hB⟩ : ∃ x : Int, x = (d : Int) + 1 + k := ⟨_, rfl⟩
  have hop : opM 1 k (d + 1 + k) = addO 1 [(k : Int), B] := by rw [addO2, hB]; simp [opM]
  rw [hN', hop]
  have g3 := (h.fx 3 ⟨T.ty_p_isw_maker, 1, false, [[.ptr 2 3 0 0]]⟩ (by simp [anFx])).2
  have g0 := (h.fx 0 ⟨T.ty_int, 1, true, [[.int .i64 d]]⟩ (by simp [anFx])).2
  have g4 := (h.fx 4 clo51 (by simp [anFx])).2
  obtain ⟨f, gm⟩ := h.gm
  have w := h.wf
  have c0 := and1_eq X w d hd k (by omega) B hB g0
  have T1 := h.tmp ⟨T.ty_int, 1, true, ints [(k : Int), B]⟩
  obtain ⟨X1, o1, e1, I1, n1⟩ := T1.add (by omega) (by omega) N hN 1 [(k : Int), B] (by simp)
  simp only [ints2, next_killAll, AHeap.next_push] at e1 n1
  have g31 := (I1.fx 3 ⟨T.ty_p_isw_maker, 1, false, [[.ptr 2 3 0 0]]⟩ (by simp [anFx])).2
  have g01 := (I1.fx 0 ⟨T.ty_int, 1, true, [[.int .i64 d]]⟩ (by simp [anFx])).2
  have g41 := (I1.fx 4 clo51 (by simp [anFx])).2
  obtain ⟨f1, gm1⟩ := I1.gm
  have w1 := I1.wf
  simp only [clo51] at g4 g41
  have b1 := w _ _ gm
  have b2 := w _ _ g3
  have b3 := w _ _ g4
  rcases I1.ru with ⟨q1, rfl⟩ | ⟨ub, q1, rfl, gu⟩
  · have hz : outs = [] := by simpa [ints] using q1
    subst hz
    refine ⟨?_, ?_, ?_, ?_, ?_, ?_⟩
    rotate_left; rotate_left; rotate_left; rotate_left
    · simp -implicitDefEqProofs +contextual (disch := try first | omega | assumption | (simp only [AHeap.next_push, AHeap.next_set, next_killAll]; omega)) [isw_And.l0, anFr, acallClo, acallR, and_C, hk', hk1, g3, g4, g0, gm, san_wf, c0, e1, g31, g41, gm1]
      constructor <;> rfl
    · refine I1.newouts (nb := X1.next + 1) (outs' := [N]) (f' := false) (by omega) ?_ ?_ ?_ ?_
      · (repeat' (first | assumption | with_reducible apply AHeap.WF.push | with_reducible apply AHeap.WF.set)) <;> (simp <;> omega)
      · simp (disch := omega) [ints1]
      · simp (disch := omega) [ints1]
      · intro c c1 c2 c3; simp (disch := omega) [c2]
  · simp only [anFx, List.map_cons, List.map_nil, List.mem_cons, List.not_mem_nil, or_false, not_or] at q1
    obtain ⟨q2, q0, q1, q3, q4⟩ := q1
    have b4 := w1 _ _ gu
    have gu0 : X.get ub = some ⟨T.ty_int, 1, true, ints outs⟩ := by
      rcases h.ru with ⟨_, p2⟩ | ⟨ub', _, p2, p3⟩
      · cases p2
      · cases p2; exact p3
    refine ⟨?_, ?_, ?_, ?_, ?_, ?_⟩
    rotate_left; rotate_left; rotate_left; rotate_left
    · simp -implicitDefEqProofs +contextual (disch := try first | omega | assumption | (simp only [AHeap.next_push, AHeap.next_set, next_killAll]; omega)) [isw_And.l0, anFr, acallClo, acallR, and_C, hk', hk1, g3, g4, g0, gm, san_wf, c0, e1, g31, g41, gm1, gu, gu0, q0, q1, q2, q3, q4]
      constructor <;> rfl
    · refine I1.newouts (nb := X1.next + 1) (outs' := outs ++ [N]) (f' := false) (by omega) ?_ ?_ ?_ ?_
      · (repeat' (first | assumption | with_reducible apply AHeap.WF.push | with_reducible apply AHeap.WF.set)) <;> (simp <;> omega)
      · simp (disch := omega) [ints_snoc]
      · simp (disch := omega) [ints_snoc]
      · intro c c1 c2 c3; have c4 := c3 ub (by simp); simp (disch := omega) [c2, c4]
def anSt (d n : Nat) : GadS := (List.range n).foldl (gadDiag true d) ⟨[], []⟩
theorem anSt_succ (d n : Nat) : anSt d (n + 1) = ⟨(anSt d n).ops ++ [opM 1 n (d + 1 + n)], (anSt d n).outs ++ [((2 * (d + 1) + (anSt d n).ops.length : Nat) : Int)]⟩ := by
  unfold anSt; rw [List.range_succ, List.foldl_append]; simp [gadDiag]
theorem anSt_len (d : Nat) : ∀ n, (anSt d n).ops.length = n ∧ (anSt d n).outs.length = n ∧ ∀ x ∈ (anSt d n).outs, 0 ≤ x
  | 0 => ⟨rfl, rfl, by simp [anSt]⟩
  | n + 1 => by
    obtain ⟨h1, h2, h3⟩ := anSt_len d n
    rw [anSt_succ]
    refine ⟨by simp [h1], by simp [h2], fun x hx => ?_⟩
    simp only [List.mem_append, List.mem_singleton] at hx
    rcases hx with hx | rfl
    · exact h3 x hx
    · omega
theorem an_diags (d : Nat) (hd : d ≤ 6) : ∀ (m k : Nat) (X : AHeap) (vo vu : AV) (x : List (Nat × AV)), k + m = d + 1 → MkI (anFx d) 2 (2 * (d + 1)) X vo vu (anSt d k).ops (anSt d k).outs →
    ∃ fr' X' vo' vu', aloop anL0 (anFr d k x) X = some (.exit 0, fr', X') ∧ fr' 1 = .ptr 0 1 0 0 ∧ fr' 2 = .ptr 1 3 0 0 ∧ fr' 4 = .ptr 3 1 0 0 ∧ fr' 5 = .ptr 4 1 0 0 ∧ MkI (anFx d) 2 (2 * (d + 1)) X' vo' vu' (anSt d (d + 1)).ops (anSt d (d + 1)).outs := by
  intro m
  induction m with
  | zero =>
    intro k X vo vu x hk h
    obtain rfl : k = d + 1 := by omega
    refine ⟨_, X, vo, vu, aloop_exit (by simp) (by simp -implicitDefEqProofs +contextual (disch := omega) [isw_And.l0, anFr]; rfl), ?_, ?_, ?_, ?_, h⟩ <;> simp
  | succ m ih =>
    intro k X vo vu x hk h
    obtain ⟨l1, l2, l3⟩ := anSt_len d k
    obtain ⟨y, X1, vo1, vu1, s1, s2⟩ := an_diag d hd k (by omega) X vo vu _ _ h (by omega) (by omega) x
    obtain ⟨fr', X', vo', vu', p1, p2⟩ := ih (k + 1) X1 vo1 vu1 y (by omega) (by rw [anSt_succ]; exact s2)
    exact ⟨fr', X', vo', vu', (aloop_step s1).trans p1, p2⟩
theorem bxc_nilf (e : TypeId) (H : AHeap) : abox e .nilf H = some (.ptr H.next 1 0 0, H.push { e := e, sz := 1, flat := true, rows := [[.nilf]] }) := box_cell _ _ _ rfl
set_option maxHeartbeats 4000000 in
theorem And_eq (d : Nat) (hd : d ≤ 6) : isw_And.spec [.int .i64 d] = some (.tup [.agg (gadC true d).cells, .int .i64 0]) := by
  have hO := order_eq d
  rw [decide_eq_true (by omega), decide_eq_true (by omega)] at hO
  simp -implicitDefEqProofs +contextual (disch := omega) [isw_And.spec, isw_And, hO, bxc_nilf]
  generalize hX : AHeap.set _ 4 _ = X
  have hI : MkI (anFx d) 2 (2 * (d + 1)) X .nils .nils (anSt d 0).ops (anSt d 0).outs := by
    subst hX
    refine ⟨?_, ?_, ⟨true, by simp (disch := omega)⟩, .inl ⟨rfl, rfl⟩, .inl ⟨rfl, rfl⟩⟩
    · (repeat' (first | assumption | with_reducible apply AHeap.WF.push | with_reducible apply AHeap.WF.set | exact AHeap.WF.empty)) <;> (simp <;> omega)
    · intro i x hi
      simp only [anFx, List.mem_cons, List.not_mem_nil, or_false, Prod.mk.injEq] at hi
      rcases hi with ⟨rfl, rfl⟩ | ⟨rfl, rfl⟩ | ⟨rfl, rfl⟩ | ⟨rfl, rfl⟩ <;> simp [resBlk, clo51]
  clear hX
  generalize hr : aloop _ _ _ = r
  obtain ⟨fr', X1, vo1, vu1, p1, p2, p3, p4, p5, I1⟩ := an_diags d hd (d + 1) 0 X .nils .nils [] (by omega) hI
  have hr2 : r = some (.exit 0, fr', X1) := hr.symm.trans p1
  subst hr2
  have hP := pairs_run X1 d
  have hg0 := (I1.fx 0 ⟨T.ty_int, 1, true, [[.int .i64 d]]⟩ (by simp [anFx])).2
  simp -implicitDefEqProofs +contextual (disch := omega) [p2, p3, p4, p5, hP, hg0]
  have I2 := I1.push ⟨T.ty_int, 1, true, [[.int .i64 d]]⟩
  obtain ⟨l1, l2, l3⟩ := anSt_len d (d + 1)
  have hB0 : GadB d (anSt d (d + 1)) 7 := ⟨l2, l3, by omega⟩
  obtain ⟨X2, vo2, e2, I3⟩ := an_pairs _ d hd (by simp [anFx]) (by simp [anFx]) (by simp [anFx]) X1.next (by simp) _ vo1 vu1 (anSt d (d + 1)) I2 7 (by omega) hB0 (AFr.al [(2, .ptr 1 3 0 0), (4, .ptr 3 1 0 0), (5, .ptr 4 1 0 0), (48, .clo 68 [] [.ptr X1.next 1 0 0])]) (by simp) (by simp)
  rw [e2]
  have hg : gadS true d = (pairsN d).foldl (gadPair true d) (anSt d (d + 1)) := rfl
  have hB2 := GadB.pairs (and := true) (pairsN d) _ _ hB0
  have hc : (gadC true d).cells = [.int .i64 (2 * (d + 1) : Nat), .rsl 4 (opRows (gadS true d).ops), .rsl 1 (ints (gadS true d).outs)] := rfl
  rw [← hg] at I3 hB2
  rw [hc]
  generalize gadS true d = s at *
  have ho := hB2.len
  have hn := pairsN_len d hd
  have hp := hB2.ops
  obtain ⟨f, gm⟩ := I3.gm
  have g1 := (I3.fx 1 resBlk (by simp [anFx])).2
  have g3 := (I3.fx 3 ⟨T.ty_p_isw_maker, 1, false, [[.ptr 2 3 0 0]]⟩ (by simp [anFx])).2
  obtain ⟨ub, rfl, gu, u1, u2⟩ := I3.out (by omega)
  have u0 := u2 1 resBlk (by simp [anFx])
  simp only [resBlk] at g1
  rcases I3.ro with ⟨q1, rfl⟩ | ⟨ob, q1, rfl, go⟩
  · have hz : s.ops = [] := by simpa [opRows] using q1
    simp -implicitDefEqProofs +contextual (disch := omega) [gm, g1, g3, gu, u0, hz, opRows]
  · have q0 : ob ≠ 1 := fun e => q1 (by simp [e, anFx])
    simp -implicitDefEqProofs +contextual (disch := omega) [gm, g1, g3, gu, u0, go, q0, opRows_all]
end Go.Abs
end
