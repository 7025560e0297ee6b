/-
  A maker's memory: what stands in it while code is made.
-/
import Derived.Test.YthignlpdeaglaaaJ7
import Derived.Test.YthignlpdeaglaaaI4
import Derived.Test.YthignlpdeaglaaaItF
set_option linter.unusedSimpArgs false
set_option linter.unusedVariables false
namespace Go.Abs
def Rl (X : AHeap) (av : List Nat) (ty : TypeId) (sz : Nat) (v : AV) (rows : List (List AV)) : Prop := (rows = [] ∧ v = .nils) ∨ ∃ ob, ob ∉ av ∧ v = .sl ob sz 0 rows.length ∧ X.get ob = some ⟨ty, sz, true, rows⟩
structure MkI (fixed : List (Nat × Blk)) (mb n : Nat) (X : AHeap) (vo vu : AV) (ops : List OpM) (outs : List Int) : Prop where
  wf : X.WF
  fx : ∀ i x, (i, x) ∈ fixed → i ≠ mb ∧ X.get i = some x
  gm : ∃ f, X.get mb = some ⟨T.ty_isw_maker, 3, f, [[.int .i64 n, vo, vu]]⟩
  ro : Rl X (mb :: fixed.map (·.1)) T.ty_api_Op 4 vo (opRows ops)
  ru : Rl X (mb :: fixed.map (·.1)) T.ty_int 1 vu (ints outs)
theorem Rl.lift {X Y : AHeap} {av : List Nat} {ty : TypeId} {sz : Nat} {v : AV} {rows : List (List AV)} (h : Rl X av ty sz v rows) (hg : ∀ ob, ob ∉ av → X.get ob = some ⟨ty, sz, true, rows⟩ → Y.get ob = some ⟨ty, sz, true, rows⟩) : Rl Y av ty sz v rows := by
  rcases h with h | ⟨ob, h1, h2, h3⟩
  · exact .inl h
  · exact .inr ⟨ob, h1, h2, hg ob h1 h3⟩
theorem addO0 (k : Int) : addO k [] = ⟨k, 0, 0, 0#32⟩ := rfl
theorem addO2 (k a b : Int) : addO k [a, b] = ⟨k, a, b, 0#32⟩ := rfl
theorem ints0 : ints [] = [] := rfl
theorem ints1 (a : Int) : ints [a] = [[.int .i64 a]] := rfl
theorem ints2 (a b : Int) : ints [a, b] = [[.int .i64 a], [.int .i64 b]] := rfl
section
variable {fixed : List (Nat × Blk)} {mb n : Nat} {X : AHeap} {vo vu : AV} {ops : List OpM} {outs : List Int}
theorem MkI.tmp (h : MkI fixed mb n X vo vu ops outs) (b : Blk) : MkI fixed mb n ((X.push b).killAll [X.next]) vo vu ops outs := by
  have key : ∀ c x, X.get c = some x → ((X.push b).killAll [X.next]).get c = some x := fun c x hx => by
    have := h.wf _ _ hx
    simp only [AHeap.get_killAll, AHeap.get_push, List.mem_singleton]
    rw [if_neg (by omega), if_neg (by omega)]; exact hx
  refine ⟨killAll_wf (h.wf.push) _, fun i x hi => ⟨(h.fx i x hi).1, key _ _ (h.fx i x hi).2⟩, ?_, h.ro.lift fun ob _ q => key _ _ q, h.ru.lift fun ob _ q => key _ _ q⟩
  obtain ⟨f, hf⟩ := h.gm
  exact ⟨f, key _ _ hf⟩
theorem MkI.push (h : MkI fixed mb n X vo vu ops outs) (b : Blk) : MkI ((X.next, b) :: fixed) mb n (X.push b) vo vu ops outs := by
  have key : ∀ c x, X.get c = some x → c ≠ X.next ∧ (X.push b).get c = some x := fun c x hx => by
    have := h.wf _ _ hx
    simp only [AHeap.get_push]
    exact ⟨by omega, by rw [if_neg (by omega)]; exact hx⟩
  obtain ⟨f, hf⟩ := h.gm
  refine ⟨h.wf.push, fun i x hi => ?_, ⟨f, (key _ _ hf).2⟩, ?_, ?_⟩
  · rcases List.mem_cons.1 hi with q | q
    · cases q
      exact ⟨fun e => (key _ _ hf).1 e.symm, by simp⟩
    · exact ⟨(h.fx i x q).1, (key _ _ (h.fx i x q).2).2⟩
  · rcases h.ro with q | ⟨ob, q1, q2, q3⟩
    · exact .inl q
    · refine .inr ⟨ob, ?_, q2, (key _ _ q3).2⟩
      have := (key _ _ q3).1
      simp at q1 ⊢; exact ⟨q1.1, this, q1.2⟩
  · rcases h.ru with q | ⟨ob, q1, q2, q3⟩
    · exact .inl q
    · refine .inr ⟨ob, ?_, q2, (key _ _ q3).2⟩
      have := (key _ _ q3).1
      simp at q1 ⊢; exact ⟨q1.1, this, q1.2⟩
theorem MkI.add (h : MkI fixed mb n X vo vu ops outs) (hn : n ≤ 4000) (hl : ops.length ≤ 60000) (N : Int) (hN : (n : Int) + ops.length = N) (k : Int) (l : List Int) (hll : l.length ≤ 2) :
    ∃ X1 ob1, isw_maker_add.spec [.ptr mb 3 0 0, .int .i64 k, .rsl 1 (ints l)] X = some (.int .i64 N, X1) ∧ MkI fixed mb n X1 (.sl ob1 4 0 (ops.length + 1)) vu (ops ++ [addO k l]) outs ∧ X1.next = X.next + 3 := by
  have hN' : N = ((n + ops.length : Nat) : Int) := by omega
  subst hN'
  obtain ⟨f, hf⟩ := h.gm
  have hw : Rw X mb T.ty_api_Op 4 vo (opRows ops) := by
    rcases h.ro with q | ⟨ob, q1, q2, q3⟩
    · exact .inl q
    · exact .inr ⟨ob, fun e => q1 (by simp [e]), q2, q3⟩
  obtain ⟨X1, ob1, f1, h1, h2, h3, h4, h5, h6, h7, h8⟩ := add_run X h.wf mb n hn ops hl k l hll vo vu f _ hf hw
  have key : ∀ c x, X.get c = some x → c ≠ mb → (x.e ≠ T.ty_api_Op ∨ ∀ ob, vo = .sl ob 4 0 ops.length → c ≠ ob) → X1.get c = some x := fun c x hx hm hc => by
    rw [h8 c (h.wf _ _ hx) hm fun ob ho => ?_]
    · exact hx
    · rcases hc with hc | hc
      · intro e
        subst e
        rcases h.ro with ⟨q1, q2⟩ | ⟨ob, q1, q2, q3⟩
        · rw [q2] at ho; cases ho
        · rw [q2, opRows_length] at ho
          cases ho
          rw [q3] at hx
          cases hx
          exact hc rfl
      · exact hc ob ho
  refine ⟨X1, ob1, h1, ⟨h2, fun i x hi => ⟨(h.fx i x hi).1, key _ _ (h.fx i x hi).2 (h.fx i x hi).1 (.inr fun ob ho e => ?_)⟩, ⟨f1, h5⟩, .inr ⟨ob1, ?_, by simp, h6⟩, ?_⟩, h7⟩
  · rcases h.ro with ⟨q1, q2⟩ | ⟨ob2, q1, q2, q3⟩
    · rw [q2] at ho; cases ho
    · rw [q2, opRows_length] at ho
      cases ho
      subst e
      exact q1 (List.mem_cons_of_mem _ (List.mem_map.2 ⟨_, hi, rfl⟩))
  · intro q
    rcases List.mem_cons.1 q with q | q
    · exact h3 q
    · obtain ⟨⟨i, x⟩, q1, q2⟩ := List.mem_map.1 q
      have := h.wf _ _ (h.fx i x q1).2
      simp only at q2; omega
  · exact h.ru.lift fun ob q1 q2 => key _ _ q2 (fun e => q1 (by simp [e])) (.inl (by show T.ty_int ≠ T.ty_api_Op; decide))
theorem MkI.turn (h : MkI fixed mb n X vo vu ops outs) {ob : Nat} (hv : vu = .sl ob 1 0 outs.length) (i : Nat) (x : Int) (hi : i < outs.length) : MkI fixed mb n (X.set ob (some ⟨T.ty_int, 1, true, ints (outs.set i x)⟩)) vo vu ops (outs.set i x) := by
  rcases h.ru with ⟨q1, q2⟩ | ⟨ob', q1, q2, q3⟩
  · rw [q2] at hv; cases hv
  · rw [q2, ints_length] at hv
    cases hv
    have hb := h.wf _ _ q3
    obtain ⟨f, hf⟩ := h.gm
    refine ⟨h.wf.set hb, fun i x hi => ⟨(h.fx i x hi).1, ?_⟩, ⟨f, ?_⟩, h.ro.lift fun ob p1 p2 => ?_, .inr ⟨ob, q1, by rw [q2]; simp, by simp⟩⟩
    · rw [AHeap.get_set, if_neg fun e => q1 (by subst e; exact List.mem_cons_of_mem _ (List.mem_map.2 ⟨_, hi, rfl⟩))]; exact (h.fx i x hi).2
    · rw [AHeap.get_set, if_neg fun e => q1 (by simp [e])]; exact hf
    · rw [AHeap.get_set, if_neg fun e => ?_]
      · exact p2
      · subst e
        rw [q3] at p2
        exact absurd (congrArg Blk.e (Option.some.inj p2)) (by show T.ty_int ≠ T.ty_api_Op; decide)
theorem MkI.out (h : MkI fixed mb n X vo vu ops outs) (ho : 0 < outs.length) : ∃ ob, vu = .sl ob 1 0 outs.length ∧ X.get ob = some ⟨T.ty_int, 1, true, ints outs⟩ ∧ ob ≠ mb ∧ ∀ i x, (i, x) ∈ fixed → ob ≠ i := by
  rcases h.ru with ⟨q1, q2⟩ | ⟨ob', q1, q2, q3⟩
  · have := congrArg List.length q1; rw [ints_length] at this; simp at this; rw [this] at ho; simp at ho
  · refine ⟨ob', by simpa using q2, q3, fun e => q1 (by simp [e]), fun i x hi e => q1 (by subst e; exact List.mem_cons_of_mem _ (List.mem_map.2 ⟨_, hi, rfl⟩))⟩
theorem MkI.newouts (h : MkI fixed mb n X vo vu ops outs) {X' : AHeap} {nb : Nat} {outs' : List Int} {f' : Bool} (h1 : X.next ≤ nb) (hw : X'.WF) (hm : X'.get mb = some ⟨T.ty_isw_maker, 3, f', [[.int .i64 n, vo, .sl nb 1 0 outs'.length]]⟩)
    (hb : X'.get nb = some ⟨T.ty_int, 1, true, ints outs'⟩) (hk : ∀ c, c < X.next → c ≠ mb → (∀ ub, vu = .sl ub 1 0 outs.length → c ≠ ub) → X'.get c = X.get c) : MkI fixed mb n X' vo (.sl nb 1 0 outs'.length) ops outs' := by
  obtain ⟨f, hf⟩ := h.gm
  have hvu : ∀ ub, vu = .sl ub 1 0 outs.length → X.get ub = some ⟨T.ty_int, 1, true, ints outs⟩ ∧ ub ∉ mb :: fixed.map (·.1) := fun ub hu => by
    rcases h.ru with ⟨q1, q2⟩ | ⟨ob, q1, q2, q3⟩
    · rw [q2] at hu; cases hu
    · rw [q2, ints_length] at hu; cases hu; exact ⟨q3, q1⟩
  refine ⟨hw, fun i x hi => ⟨(h.fx i x hi).1, ?_⟩, ⟨f', hm⟩, h.ro.lift fun ob p1 p2 => ?_, .inr ⟨nb, fun e => ?_, by simp, hb⟩⟩
  · rw [hk i (h.wf _ _ (h.fx i x hi).2) (h.fx i x hi).1 fun ub hu e => (hvu ub hu).2 (by subst e; exact List.mem_cons_of_mem _ (List.mem_map.2 ⟨_, hi, rfl⟩))]
    exact (h.fx i x hi).2
  · rw [hk ob (h.wf _ _ p2) (fun e => p1 (by simp [e])) fun ub hu e => ?_]
    · exact p2
    · subst e
      rw [(hvu _ hu).1] at p2
      exact absurd (congrArg Blk.e (Option.some.inj p2)) (by show T.ty_int ≠ T.ty_api_Op; decide)
  · rcases List.mem_cons.1 e with q | q
    · have := h.wf _ _ hf; omega
    · obtain ⟨⟨i, x⟩, q1, q2⟩ := List.mem_map.1 q
      have := h.wf _ _ (h.fx i x q1).2
      simp only at q2; omega
end
structure GadB (d : Nat) (s : GadS) (m : Nat) : Prop where
  len : s.outs.length = d + 1
  nn : ∀ x ∈ s.outs, 0 ≤ x
  ops : s.ops.length ≤ m
theorem mem_set_of {α : Type} {l : List α} {i : Nat} {x y : α} (h : y ∈ l.set i x) : y = x ∨ y ∈ l := by
  rcases List.mem_or_eq_of_mem_set h with h | h
  · exact .inr h
  · exact .inl h
theorem GadB.pair {and : Bool} {d : Nat} {s : GadS} {m : Nat} (h : GadB d s m) (p : Nat × Nat) : GadB d (gadPair and d s p) (m + 7) := by
  have h1 := h.len
  have h2 := h.ops
  cases and with
  | true =>
    refine ⟨by simp [gadPair]; exact h1, fun x hx => ?_, by simp [gadPair]; omega⟩
    simp only [gadPair, if_true] at hx
    rcases mem_set_of hx with rfl | hx
    · omega
    · rcases mem_set_of hx with rfl | hx
      · omega
      · exact h.nn x hx
  | false =>
    refine ⟨by simp [gadPair]; exact h1, fun x hx => ?_, by simp [gadPair]; omega⟩
    simp only [gadPair, Bool.false_eq_true, if_false] at hx
    rcases mem_set_of hx with rfl | hx
    · omega
    · rcases mem_set_of hx with rfl | hx
      · omega
      · exact h.nn x hx
theorem GadB.pairs {and : Bool} {d : Nat} : ∀ (l : List (Nat × Nat)) (s : GadS) (m : Nat), GadB d s m → GadB d (l.foldl (gadPair and d) s) (m + 7 * l.length)
  | [], s, m, h => by simpa using h
  | p :: l, s, m, h => by
    have := GadB.pairs (and := and) l _ _ (h.pair (and := and) p)
    rw [List.foldl_cons, List.length_cons]
    exact ⟨this.len, this.nn, by have := this.ops; omega⟩
theorem pairsAV_eq (d : Nat) : pairsAV d = (pairsN d).map fun p => [.int .i64 (p.1 : Nat), .int .i64 (p.2 : Nat)] := by
  unfold pairsAV pairsN
  rw [List.map_flatMap]
  congr 1
  funext i
  simp [rowAV]
theorem pairsN_len (d : Nat) (h : d ≤ 6) : (pairsN d).length ≤ 21 := by
  have : d = 0 ∨ d = 1 ∨ d = 2 ∨ d = 3 ∨ d = 4 ∨ d = 5 ∨ d = 6 := by omega
  rcases this with rfl | rfl | rfl | rfl | rfl | rfl | rfl <;> decide
theorem order_eq (d : Int) : isw_order.spec [.int .i64 d] = some (.bool (decide (0 ≤ d) && decide (d ≤ 6))) := by
  by_cases h1 : 0 ≤ d
  · by_cases h2 : d ≤ 6
    · simp -implicitDefEqProofs +contextual (disch := omega) [isw_order.spec, isw_order, h1, h2]
    · simp -implicitDefEqProofs +contextual (disch := omega) [isw_order.spec, isw_order, h1, h2]
  · simp -implicitDefEqProofs +contextual (disch := omega) [isw_order.spec, isw_order, h1]
theorem pairs_run (X : AHeap) (d : Nat) : isw_pairs.spec [.int .i64 d] X = some (.clo 68 [] [.ptr X.next 1 0 0], X.push ⟨T.ty_int, 1, true, [[.int .i64 d]]⟩) := by
  simp -implicitDefEqProofs +contextual (disch := omega) [isw_pairs.spec, isw_pairs]
theorem pairs_it (X : AHeap) (b d : Nat) (hd : d ≤ 6) (h : X.get b = some ⟨T.ty_int, 1, true, [[.int .i64 d]]⟩) : isw_pairs_1.spec [.ptr b 1 0 0] X = some (pairsAV d) := by
  have e : isw_pairs_1.spec [.ptr b 1 0 0] X = if (0 : Int) ≤ d ∧ (d : Int) ≤ 6 then some (pairsAV (d : Int).toNat) else none := by
    simp only [isw_pairs_1.spec, h]
  rw [e, if_pos ⟨by omega, by omega⟩]
  simp
end Go.Abs
