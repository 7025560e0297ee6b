/-
  Every operation; operations one behind the other.
-/
import Derived.Test.YtgcfbommjdcgkaaAbs6
import Derived.LoopN
set_option linter.unusedSimpArgs false
set_option linter.unusedVariables false
namespace Go.Abs

abbrev Tab := FuncId → Option Con

def Tab.none : Tab := fun _ => Option.none
def Tab.add (T : Tab) (f : FuncId) (k : Con) : Tab := fun n => if n = f then some k else T n

def lift (x : Option AV) (H : AHeap) : Option (AV × AHeap) := match x with | some v => some (v, H) | none => none
def liftS (x : Option AHeap) : Option (AV × AHeap) := match x with | some H => some (.undef, H) | none => none
/-- Only where it is asked for. -/
def gd (g : Option Bool) (x : Option (AV × AHeap)) (H : AHeap) : Option (AV × AHeap) := match g with | some b => if b then x else some (.tup [], H) | none => none
/-- What was not done itself wants nothing done. -/
def gw (v : AV) (want : Bool) : Option Bool := match v with | .bool b => some (b == want) | .tup [] => some false | _ => none

theorem RV.skip {w : World} {F A : Nat → Prop} {m : Nat → Nat} : RV w F A m (.tup []) (Value.tuple #[]) := RV.tup [] #[] (by simp) (fun i a v h => by simp at h)
/-- One operation, and what comes behind it. -/
def op {β : Type} (x : Option (AV × AHeap)) (k : AV → AHeap → Option β) : Option β := match x with | some (v, H) => k v H | none => none

/-- A function value is called. -/
def acallClo (C : Tab) (l : Option (List (List (Option Nat)))) (v : AV) (args : List AV) (H : AHeap) : Option (AV × AHeap) :=
  match v with
  | .clo g first caps => acallR (C g) l (first ++ args ++ caps) H
  | _ => none

def acallOp (P : Program) (C : Tab) (ρ : Operand → AV) (H : AHeap) (c : Call) : Option (AV × AHeap) :=
  match c.callee with
  | .builtin .append => match c.args.toList, c.argTypes.toList with
    | [s, x], [t, t'] => if t = t' then aappend P t (ρ s) (ρ x) H else none
    | _, _ => none
  | .builtin b => lift (aval P ρ (.call { callee := .builtin b, args := c.args, argTypes := c.argTypes })) H
  | .value f => acallClo C (tysOf P c.argTypes.toList) (ρ f) (c.args.toList.map ρ) H
  | .invoke _ _ => none

def aop (P : Program) (C : Tab) (ρ : Operand → AV) (H : AHeap) (op : Op) : Option (AV × AHeap) :=
  match op with
  | .alloc e => aalloc P e H
  | .box e x => abox e (ρ x) H
  | .buildSlice t n parts => abuildSlice P t n (parts.toList.map fun p => (p.1, ρ p.2)) H
  | .load t a => lift (aload P t (ρ a) H) H
  | .store t a x => liftS (astore P t (ρ a) (ρ x) H)
  | .makeSlice t l c => amake P t (ρ l) (ρ c) H
  | .call c => acallOp P C ρ H c
  | op => lift (aval P ρ op) H

/-- Is it done at all? -/
def aguard (ops : Array Oper) (fr : AFr) (o : Oper) : Option Bool :=
  match o.guard with
  | none => some true
  | some (j, want) =>
    match (ops[j]?).bind (·.dst) with
    | some t => gw (fr t) want
    | none => none

/-- An operation, if it is done at all. -/
def astep (P : Program) (C : Tab) (ops : Array Oper) (fr : AFr) (H : AHeap) (o : Oper) : Option (AV × AHeap) :=
  gd (aguard ops fr o) (aop P C fr.eval H o.op) H

/-- A frame of a few slots. -/
def AFr.al : List (Nat × AV) → AFr
  | [], _ => .undef
  | (k, v) :: l, t => if t = k then v else AFr.al l t

/-- The slots that are wanted further on. -/
def AFr.only (fr : AFr) (l : List Nat) : AFr := AFr.al (l.map fun t => (t, fr t))

theorem AFr.only_or (fr : AFr) : ∀ (l : List Nat) (t : Nat), fr.only l t = fr t ∨ fr.only l t = .undef
  | [], t => .inr rfl
  | k :: l, t => by
    simp only [AFr.only, List.map_cons, AFr.al]
    split
    · rename_i h; subst h; exact .inl rfl
    · exact AFr.only_or fr l t

def aops (P : Program) (C : Tab) (ops : Array Oper) (l : List Nat) : List Oper → AFr → AHeap → Option (AFr × AHeap)
  | [], fr, H => some (fr.only l, H)
  | o :: rest, fr, H => op (astep P C ops fr H o) fun v H' => aops P C ops l rest (fr.put o.dst v) H'

def dstOk (n : Nat) (o : Oper) : Bool := match o.dst with | some d => decide (d < n) | none => true

/-- All contracts hold. -/
def Tab.Sound (P : Program) (C : Tab) : Prop := ∀ f k, C f = some k → Abs.Sound P f k

section
variable {P : Program} {w : World} {F A : Nat → Prop} {m : Nat → Nat} {H : AHeap} {C : Tab}

theorem Tab.Sound.none : Tab.Sound P Tab.none := fun f k h => by cases h

theorem Tab.Sound.add {T : Tab} {f : FuncId} {k : Con} (h : T.Sound P) (hk : Abs.Sound P f k) : (T.add f k).Sound P := fun g q hg => by
  unfold Tab.add at hg
  split at hg
  · rename_i e; subst e; simp only [Option.some.injEq] at hg; exact hg ▸ hk
  · exact h g q hg

theorem nx_succ {H H' : AHeap} (h : H'.next = H.next + 1) : Nx H' = withB (Nx H) H.next := by
  funext b
  simp only [Nx, withB, h]
  apply propext
  omega

theorem abox_next {e : TypeId} {x z : AV} {H' : AHeap} (h : abox e x H = some (z, H')) : H'.next = H.next + 1 := by
  unfold abox at h
  repeat' split at h
  all_goals first | (cases h; done) | skip
  simp only [Option.some.injEq, Prod.mk.injEq] at h
  rw [← h.2]; rfl

theorem aalloc_next {e : TypeId} {z : AV} {H' : AHeap} (h : aalloc P e H = some (z, H')) : H'.next = H.next + 1 := by
  rw [aalloc_old] at h
  repeat' split at h
  all_goals first | (cases h; done) | exact abox_next h

theorem abuildSlice_next {t : TypeId} {n : Nat} {parts : List (Nat × AV)} {z : AV} {H' : AHeap} (h : abuildSlice P t n parts H = some (z, H')) : H'.next = H.next + 1 := by
  unfold abuildSlice abuildSliceR at h
  repeat' split at h
  all_goals first | (cases h; done) | skip
  simp only [Option.some.injEq, Prod.mk.injEq] at h
  rw [← h.2]; rfl

theorem amake_next {t : TypeId} {l c z : AV} {H' : AHeap} (h : amake P t l c H = some (z, H')) : H'.next = H.next + 1 := by
  unfold amake amakeR at h
  repeat' split at h
  all_goals first | (cases h; done) | skip
  simp only [Option.some.injEq, Prod.mk.injEq] at h
  rw [← h.2]; rfl

theorem aappend_next {t : TypeId} {s x z : AV} {H' : AHeap} (h : aappend P t s x H = some (z, H')) : H'.next = H.next + 1 := by
  unfold aappend aappendR at h
  repeat' split at h
  all_goals first | (cases h; done) | skip
  all_goals
    simp only [Option.some.injEq, Prod.mk.injEq] at h
    exact h.2 ▸ rfl

theorem parts_rel {fr : AFr} {a : Act} (hf : RF w F A m fr a.tmps) (parts : Array (Nat × Operand)) :
    (parts.toList.map fun p => (p.1, fr.eval p.2)).length = (parts.map fun (i, x) => (i, a.eval x)).size ∧
    ∀ (i : Nat) (p : Nat × AV) (q : Nat × Value), (parts.toList.map fun p => (p.1, fr.eval p.2))[i]? = some p → (parts.map fun (i, x) => (i, a.eval x))[i]? = some q → p.1 = q.1 ∧ RV w F A m p.2 q.2 := by
  refine ⟨by simp, fun i p q h1 h2 => ?_⟩
  simp only [List.getElem?_map, Array.getElem?_toList, Option.map_eq_some_iff, Array.getElem?_map] at h1 h2
  obtain ⟨p0, e1, rfl⟩ := h1
  obtain ⟨p1, e2, rfl⟩ := h2
  rw [e1] at e2
  simp only [Option.some.injEq] at e2
  subst e2
  exact ⟨rfl, hf.eval _⟩

/-- What an operation that calls no function leaves, whatever blocks there are. -/
theorem aop_alone {fr : AFr} {a : Act} {o : Oper} {z : AV} {H' : AHeap} (h : aop P C fr.eval H o.op = some (z, H')) (hc : ∀ c, o.op = .call c → ∀ f, c.callee ≠ .value f)
    (I : Inv w F A m H) (hn : ¬ A H.next) (hf : RF w F A m fr a.tmps) :
    ∃ n r w' A', ((execOp a.eval o).run P w = .ok (.value r) w' ∨ ((execOp a.eval o).run P w = .ok .skip w' ∧ r = undef)) ∧ After w F A m H A' H' z r w' ∧
      ((n = 0 ∧ A' = A ∧ H'.next = H.next) ∨ (n = 1 ∧ A' = withB A H.next ∧ H'.next = H.next + 1)) := by
  obtain ⟨dst, op, type, pos, after, guard⟩ := o
  have lft : ∀ {s : Sem Value}, (∃ r w', s.run P w = .ok r w' ∧ After w F A m H (withB A H.next) H' z r w') → H'.next = H.next + 1 → (do pure (Next.value (← s)) : Sem Next) = execOp a.eval { dst, op, type, pos, after, guard } →
      ∃ n r w' A', ((execOp a.eval { dst, op, type, pos, after, guard }).run P w = .ok (.value r) w' ∨ ((execOp a.eval { dst, op, type, pos, after, guard }).run P w = .ok .skip w' ∧ r = undef)) ∧ After w F A m H A' H' z r w' ∧
      ((n = 0 ∧ A' = A ∧ H'.next = H.next) ∨ (n = 1 ∧ A' = withB A H.next ∧ H'.next = H.next + 1)) :=
    fun ⟨r, w', h1, h2⟩ h3 h4 => ⟨1, r, w', _, .inl (by rw [← h4]; simp [h1]), h2, .inr ⟨rfl, rfl, h3⟩⟩
  have pureCase : ∀ {o : Oper}, (∃ v, aval P fr.eval o.op = some v ∧ some (v, H) = some (z, H')) →
      ∃ n r w' A', ((execOp a.eval o).run P w = .ok (.value r) w' ∨ ((execOp a.eval o).run P w = .ok .skip w' ∧ r = undef)) ∧ After w F A m H A' H' z r w' ∧
      ((n = 0 ∧ A' = A ∧ H'.next = H.next) ∨ (n = 1 ∧ A' = withB A H.next ∧ H'.next = H.next + 1)) := by
    rintro o ⟨v, hv, he⟩
    simp only [Option.some.injEq, Prod.mk.injEq] at he
    obtain ⟨rfl, rfl⟩ := he
    obtain ⟨r, h1, h2⟩ := aval_sound (w := w) hv hf
    exact ⟨0, r, w, A, .inl h1, ⟨F, m, I, h2, Evo.refl⟩, .inl ⟨rfl, rfl, rfl⟩⟩
  have pureOp : ∀ {o : Oper}, lift (aval P fr.eval o.op) H = some (z, H') →
      ∃ v, aval P fr.eval o.op = some v ∧ some (v, H) = some (z, H') := by
    intro o h
    unfold lift at h
    split at h
    · rename_i v hv; exact ⟨v, hv, h⟩
    · cases h
  unfold aop at h
  cases op
  case alloc e => exact lft (aalloc_sound h I hn) (aalloc_next h) rfl
  case box e x => exact lft (abox_sound h I hn (hf.eval x)) (abox_next h) rfl
  case buildSlice t n parts => exact lft (abuildSlice_sound h I hn (parts_rel hf parts).1 (parts_rel hf parts).2) (abuildSlice_next h) rfl
  case makeSlice t l c => exact lft (amake_sound h I hn (hf.eval l) (hf.eval c)) (amake_next h) rfl
  case load t x =>
    unfold lift at h
    dsimp only at h
    split at h <;> try (cases h; done)
    rename_i v hv
    simp only [Option.some.injEq, Prod.mk.injEq] at h
    obtain ⟨rfl, rfl⟩ := h
    obtain ⟨r, h1, h2⟩ := aload_sound hv I (hf.eval x)
    exact ⟨0, r, w, A, .inl (by simp [execOp, h1]), ⟨F, m, I, h2, Evo.refl⟩, .inl ⟨rfl, rfl, rfl⟩⟩
  case store t x y =>
    unfold liftS at h
    dsimp only at h
    split at h <;> try (cases h; done)
    rename_i H1 hv
    simp only [Option.some.injEq, Prod.mk.injEq] at h
    obtain ⟨rfl, rfl⟩ := h
    obtain ⟨w', h1, h2, h3⟩ := astore_sound hv I (hf.eval x) (hf.eval y)
    refine ⟨0, undef, w', A, .inr ⟨by simp [execOp, h1], rfl⟩, ⟨F, m, h2, .undef _, h3⟩, .inl ⟨rfl, rfl, ?_⟩⟩
    unfold astore astoreR at hv
    repeat' split at hv
    all_goals first | (cases hv; done) | skip
    simp only [Option.some.injEq] at hv
    rw [← hv]; rfl
  case call c =>
    obtain ⟨callee, args, argTypes⟩ := c
    dsimp only at h
    unfold acallOp at h
    clear lft
    cases callee with
    | value f => exact absurd rfl (hc _ rfl f)
    | invoke r n => cases h
    | builtin b =>
      dsimp only at h
      have other : lift (aval P fr.eval (.call { callee := .builtin b, args, argTypes })) H = some (z, H') →
          ∃ n r w' A', ((execOp a.eval { dst, op := .call { callee := .builtin b, args, argTypes }, type, pos, after, guard }).run P w = .ok (.value r) w' ∨ ((execOp a.eval { dst, op := .call { callee := .builtin b, args, argTypes }, type, pos, after, guard }).run P w = .ok .skip w' ∧ r = undef)) ∧ After w F A m H A' H' z r w' ∧
          ((n = 0 ∧ A' = A ∧ H'.next = H.next) ∨ (n = 1 ∧ A' = withB A H.next ∧ H'.next = H.next + 1)) := fun h => pureCase (o := { dst, op := .call { callee := .builtin b, args, argTypes }, type, pos, after, guard }) (pureOp (o := { dst, op := .call { callee := .builtin b, args, argTypes }, type, pos, after, guard }) h)
      by_cases hb : b = .append
      · subst hb
        dsimp only at h
        split at h <;> try (cases h; done)
        rename_i s x t t' ha ht
        split at h <;> try (cases h; done)
        rename_i htt
        subst htt
        have ha : args = #[s, x] := Array.toList_inj.1 ha
        have ht : argTypes = #[t, t] := Array.toList_inj.1 ht
        subst ha ht
        obtain ⟨r, w', h1, h2⟩ := aappend_sound (ty := type) h I hn (hf.eval s) (hf.eval x)
        exact ⟨1, r, w', _, .inl (by simp [execOp, resolve, invoke, builtin, h1]), h2, .inr ⟨rfl, rfl, aappend_next h⟩⟩
      · refine other ?_
        cases b <;> first | exact absurd rfl hb | exact h
  all_goals exact pureCase (pureOp (o := { dst, op := _, type, pos, after, guard }) h)

/-- EVERY OPERATION. -/
theorem aop_sound (hC : Tab.Sound P C) {fr : AFr} {a : Act} {o : Oper} {z : AV} {H' : AHeap} (h : aop P C fr.eval H o.op = some (z, H')) (I : Inv w F (Nx H) m H) (hf : RF w F (Nx H) m fr a.tmps)
    {next : Act → World → Prop} {Q : Exit → Act → World → Prop}
    (hk : ∀ r w' F' m', Inv w' F' (Nx H') m' H' → RV w' F' (Nx H') m' z r → Evo w F (Nx H) m H w' F' (Nx H') m' H' → next (a.put o.dst r) w') : o.wp P a w next Q := by
  by_cases hc : ∀ c, o.op = .call c → ∀ f, c.callee ≠ .value f
  · obtain ⟨n, r, w', A', hr, ⟨F', m', h1, h2, h3⟩, hA⟩ := aop_alone h hc I (by simp [Nx]) hf
    have hA' : A' = Nx H' := by
      rcases hA with ⟨_, rfl, h⟩ | ⟨_, rfl, h⟩
      · funext b; simp only [Nx]; rw [h]
      · exact (nx_succ h).symm
    subst hA'
    unfold Oper.wp
    rcases hr with hr | ⟨hr, rfl⟩
    · rw [hr]; exact hk r w' F' m' h1 h2 h3
    · rw [hr]; exact hk undef w' F' m' h1 h2 h3
  · obtain ⟨dst, op, type, pos, after, guard⟩ := o
    obtain ⟨c, hc⟩ := Classical.not_forall.1 hc
    obtain ⟨hcc, hc⟩ := Classical.not_forall.1 hc
    obtain ⟨f, hc⟩ := Classical.not_forall.1 hc
    have hcf := Classical.not_not.1 hc
    simp only at hcc
    subst hcc
    obtain ⟨callee, args, argTypes⟩ := c
    simp only at hcf
    subst hcf
    simp only [aop, acallOp, acallClo] at h
    split at h <;> try (cases h; done)
    rename_i g first caps hg
    have hv := hf.eval f
    rw [hg] at hv
    generalize hu : a.eval f = u at hv
    cases hv with
    | clo g first caps vs us hl hl' h1 h2 =>
      have hargs : RLs w F (Nx H) m (first ++ args.toList.map fr.eval ++ caps) (vs ++ args.map a.eval ++ us) := by
        refine ⟨by simp [hl, hl'], fun i x y h3 h4 => ?_⟩
        simp only [Array.toList_append, Array.toList_map] at h4
        rw [List.getElem?_append] at h3 h4
        simp only [List.length_append, List.length_map, Array.length_toList, ← hl] at h3 h4
        split at h3
        · rename_i hi
          rw [if_pos hi] at h4
          rw [List.getElem?_append] at h3 h4
          simp only [Array.length_toList, ← hl] at h4
          split at h3
          · rename_i hi2
            rw [if_pos hi2] at h4
            exact h1 i x y h3 (by simpa using h4)
          · rename_i hi2
            rw [if_neg hi2] at h4
            simp only [List.getElem?_map, Option.map_eq_some_iff] at h3 h4
            obtain ⟨p0, e1, rfl⟩ := h3
            obtain ⟨p1, e2, rfl⟩ := h4
            rw [e1] at e2
            simp only [Option.some.injEq] at e2
            subst e2
            exact hf.eval _
        · rename_i hi
          rw [if_neg hi] at h4
          exact h2 _ x y h3 (by simpa using h4)
      obtain ⟨hcl, hcalls⟩ := acall_sound (f := g) (tys := argTypes.toList) h (fun k hk => hC g k hk) I hargs
      have hrun : (execOp a.eval { dst, op := .call { callee := .value f, args, argTypes }, type, pos, after, guard }).run P w = .ok (.enter g (vs ++ args.map a.eval ++ us)) w := by
        simp [execOp, resolve, Deferred.ofValue, hu, invoke, hcl (vs ++ (Array.map a.eval args ++ us)) w]
      unfold Oper.wp
      rw [hrun]
      refine Calls.mono hcalls ?_
      rintro e w' ⟨v, F', m', rfl, p1, p2, p3⟩
      exact hk v w' F' m' p1 p2 p3
end
end Go.Abs
