import Derived.Test.YteohnepdbjmghaaAbA
import Derived.LoopN
section
set_option linter.unusedSimpArgs false
set_option linter.unusedVariables false
namespace Go.Abs
abbrev Tab := FuncId → Option Con
def Tab.none : Tab := fun _ => Option.none
def Tab.add (T : Tab) (f : FuncId) (k : Con) : Tab := fun n => if n = f then some k else T n
def lift (x : Option AV) (H : AHeap) : Option (AV × AHeap) := match x with | some v => some (v, H) | none => none
def liftS (x : Option AHeap) : Option (AV × AHeap) := match x with | some H => some (.undef, H) | none => none
def gd (g : Option Bool) (x : Option (AV × AHeap)) (H : AHeap) : Option (AV × AHeap) := match g with | some b => if b then x else some (.tup [], H) | none => none
def gw (v : AV) (want : Bool) : Option Bool := match v with | .bool b => some (b == want) | .tup [] => some false | _ => none
theorem RV.skip {w : World} {F A : Nat → Prop} {m : Nat → Nat} : RV w F A m (.tup []) (Value.tuple #[]) := RV.tup [] #[] (by simp) (fun i a v h => by simp at h)
def op {β : Type} (x : Option (AV × AHeap)) (k : AV → AHeap → Option β) : Option β := match x with | some (v, H) => k v H | none => none
def acallClo (C : Tab) (l : Option (List (List (Option Nat)))) (v : AV) (args : List AV) (H : AHeap) : Option (AV × AHeap) :=
  match v with
  | .clo g first caps => acallR (C g) l (first ++ args ++ caps) H
  | _ => none
def acallOp (P : Program) (C : Tab) (ρ : Operand → AV) (H : AHeap) (c : Call) : Option (AV × AHeap) :=
  match c.callee with
  | .builtin .append => match c.args.toList, c.argTypes.toList with
    | [s, x], [t, t'] => if t = t' then aappend P t (ρ s) (ρ x) H else aappendZ P t t' (ρ s) (ρ x) H
    | _, _ => none
  | .builtin .copy => match c.args.toList, c.argTypes.toList with
    | [d, s], [t, t'] => if t = t' then acopyR (ekOf P t) (ρ d) (ρ s) H else none
    | _, _ => none
  | .builtin .clear => match c.args.toList, c.argTypes.toList with
    | [d], [t] => aclearR (ekOf P t) (ρ d) H
    | _, _ => none
  | .builtin b => lift (aval P ρ (.call { callee := .builtin b, args := c.args, argTypes := c.argTypes })) H
  | .value f => acallClo C (tysOf P c.argTypes.toList) (ρ f) (c.args.toList.map ρ) H
  | .invoke _ _ => none
def aop (P : Program) (C : Tab) (ρ : Operand → AV) (H : AHeap) (op : Op) : Option (AV × AHeap) :=
  match op with
  | .alloc e => aalloc P e H
  | .box e x => abox e (ρ x) H
  | .buildSlice t n parts => abuildSlice P t n (parts.toList.map fun p => (p.1, ρ p.2)) H
  | .load t a => lift (aload P t (ρ a) H) H
  | .store t a x => liftS (astore P t (ρ a) (ρ x) H)
  | .makeSlice t l c => amake P t (ρ l) (ρ c) H
  | .call c => acallOp P C ρ H c
  | op => lift (aval P ρ op) H
def aguard (ops : Array Oper) (fr : AFr) (o : Oper) : Option Bool :=
  match o.guard with
  | none => some true
  | some (j, want) =>
    match (ops[j]?).bind (·.dst) with
    | some t => gw (fr t) want
    | none => none
def astep (P : Program) (C : Tab) (ops : Array Oper) (fr : AFr) (H : AHeap) (o : Oper) : Option (AV × AHeap) :=
  gd (aguard ops fr o) (aop P C fr.eval H o.op) H
def AFr.al : List (Nat × AV) → AFr
  | [], _ => .undef
  | (k, v) :: l, t => if t = k then v else AFr.al l t
def AFr.only (fr : AFr) (l : List Nat) : AFr := AFr.al (l.map fun t => (t, fr t))
theorem AFr.only_or (fr : AFr) : ∀ (l : List Nat) (t : Nat), fr.only l t = fr t ∨ fr.only l t = .undef
  | [], t => .inr rfl
  | k :: l, t => by
    simp only [AFr.only, List.map_cons, AFr.al]
    split
    · rename_i h; subst h; exact .inl rfl
    · exact AFr.only_or fr l t
def isMove (o : Oper) : Option Operand :=
  match o.guard with
  | none => match o.op with
    | .move x => some x
    | .assign x => some x
    | _ => none
  | some _ => none
def aops (P : Program) (C : Tab) (ops : Array Oper) (l : List Nat) : List Oper → AFr → AHeap → Option (AFr × AHeap)
  | [], fr, H => some (fr.only l, H)
  | o :: rest, fr, H => match isMove o with
    | some x => aops P C ops l rest (fr.put o.dst (fr.eval x)) H
    | none => op (astep P C ops fr H o) fun v H' => aops P C ops l rest (fr.put o.dst v) H'
theorem aops_cons (P : Program) (C : Tab) (ops : Array Oper) (l : List Nat) (o : Oper) (rest : List Oper) (fr : AFr) (H : AHeap) :
    aops P C ops l (o :: rest) fr H = op (astep P C ops fr H o) fun v H' => aops P C ops l rest (fr.put o.dst v) H' := by
  rw [aops]
  cases h : isMove o with
  | none => rfl
  | some x =>
    have h1 : astep P C ops fr H o = some (fr.eval x, H) := by
      unfold isMove at h
      split at h
      · rename_i hg
        split at h
        · rename_i y hy
          simp only [Option.some.injEq] at h
          subst h
          unfold astep aguard
          rw [hg, hy]
          rfl
        · rename_i y hy
          simp only [Option.some.injEq] at h
          subst h
          unfold astep aguard
          rw [hg, hy]
          rfl
        · cases h
      · cases h
    rw [h1]
    rfl
def dstOk (n : Nat) (o : Oper) : Bool := match o.dst with | some d => decide (d < n) | none => true
def Tab.Sound (P : Program) (C : Tab) : Prop := ∀ f k, C f = some k → Abs.Sound P f k
section
variable {P : Program} {w : World} {F A : Nat → Prop} {m : Nat → Nat} {H : AHeap} {C : Tab}
theorem Tab.Sound.none : Tab.Sound P Tab.none := fun f k h => by cases h
theorem Tab.Sound.add {T : Tab} {f : FuncId} {k : Con} (h : T.Sound P) (hk : Abs.Sound P f k) : (T.add f k).Sound P := fun g q hg => by
  unfold Tab.add at hg
  split at hg
  · rename_i e; subst e; simp only [Option.some.injEq] at hg; exact hg ▸ hk
  · exact h g q hg
theorem nx_succ {H H' : AHeap} (h : H'.next = H.next + 1) : Nx H' = withB (Nx H) H.next := by
  funext b
  simp only [Nx, withB, h]
  apply propext
  omega
theorem abox_next {e : TypeId} {x z : AV} {H' : AHeap} (h : abox e x H = some (z, H')) : H'.next = H.next + 1 := by
  unfold abox at h
  repeat' split at h
  all_goals first | (cases h; done) | skip
  simp only [Option.some.injEq, Prod.mk.injEq] at h
  rw [← h.2]; rfl
theorem aalloc_next {e : TypeId} {z : AV} {H' : AHeap} (h : aalloc P e H = some (z, H')) : H'.next = H.next + 1 := by
  rw [aalloc_old] at h
  repeat' split at h
  all_goals first | (cases h; done) | exact abox_next h
theorem abuildSlice_next {t : TypeId} {n : Nat} {parts : List (Nat × AV)} {z : AV} {H' : AHeap} (h : abuildSlice P t n parts H = some (z, H')) : H'.next = H.next + 1 := by
  unfold abuildSlice abuildSliceR at h
  repeat' split at h
  all_goals first | (cases h; done) | skip
  simp only [Option.some.injEq, Prod.mk.injEq] at h
  rw [← h.2]; rfl
theorem amake_next {t : TypeId} {l c z : AV} {H' : AHeap} (h : amake P t l c H = some (z, H')) : H'.next = H.next + 1 := by
  unfold amake amakeR at h
  repeat' split at h
  all_goals first | (cases h; done) | skip
  simp only [Option.some.injEq, Prod.mk.injEq] at h
  rw [← h.2]; rfl
theorem aappend_next {t : TypeId} {s x z : AV} {H' : AHeap} (h : aappend P t s x H = some (z, H')) : H'.next = H.next + 1 := by
  unfold aappend aappendR at h
  repeat' split at h
  all_goals first | (cases h; done) | skip
  all_goals
    simp only [Option.some.injEq, Prod.mk.injEq] at h
    exact h.2 ▸ rfl
theorem aappendZ_next {t t' : TypeId} {s x z : AV} {H' : AHeap} (h : aappendZ P t t' s x H = some (z, H')) : H'.next = H.next + 1 := by
  unfold aappendZ aappendZR at h
  repeat' split at h
  all_goals first | (cases h; done) | skip
  simp only [Option.some.injEq, Prod.mk.injEq] at h
  rw [← h.2]; rfl
theorem acopy_next {k : Option EK} {d s z : AV} {H' : AHeap} (h : acopyR k d s H = some (z, H')) : H'.next = H.next := by
  unfold acopyR at h
  repeat' split at h
  all_goals first | (cases h; done) | skip
  simp only [Option.some.injEq, Prod.mk.injEq] at h
  rw [← h.2]; rfl
theorem aclear_next {k : Option EK} {d z : AV} {H' : AHeap} (h : aclearR k d H = some (z, H')) : H'.next = H.next := by
  unfold aclearR at h
  repeat' split at h
  all_goals first | (cases h; done) | skip
  all_goals
    simp only [Option.some.injEq, Prod.mk.injEq] at h
    rw [← h.2]
    try rfl
theorem parts_rel {fr : AFr} {a : Act} (hf : RF w F A m fr a.tmps) (parts : Array (Nat × Operand)) :
    (parts.toList.map fun p => (p.1, fr.eval p.2)).length = (parts.map fun (i, x) => (i, a.eval x)).size ∧
    ∀ (i : Nat) (p : Nat × AV) (q : Nat × Value), (parts.toList.map fun p => (p.1, fr.eval p.2))[i]? = some p → (parts.map fun (i, x) => (i, a.eval x))[i]? = some q → p.1 = q.1 ∧ RV w F A m p.2 q.2 := by
  refine ⟨by simp, fun i p q h1 h2 => ?_⟩
  simp only [List.getElem?_map, Array.getElem?_toList, Option.map_eq_some_iff, Array.getElem?_map] at h1 h2
  obtain ⟨p0, e1, rfl⟩ := h1
  obtain ⟨p1, e2, rfl⟩ := h2
  rw [e1] at e2
  simp only [Option.some.injEq] at e2
  subst e2
  exact ⟨rfl, hf.eval _⟩
theorem aop_alone {fr : AFr} {a : Act} {o : Oper} {z : AV} {H' : AHeap} (h : aop P C fr.eval H o.op = some (z, H')) (hc : ∀ c, o.op = .call c → ∀ f, c.callee ≠ .value f)
    (I : Inv w F A m H) (hn : ¬ A H.next) (hf : RF w F A m fr a.tmps) :
    ∃ n r w' A', ((execOp a.eval o).run P w = .ok (.value r) w' ∨ ((execOp a.eval o).run P w = .ok .skip w' ∧ r = undef)) ∧ After w F A m H A' H' z r w' ∧
      ((n = 0 ∧ A' = A ∧ H'.next = H.next) ∨ (n = 1 ∧ A' = withB A H.next ∧ H'.next = H.next + 1)) := by
  obtain ⟨dst, op, type, pos, after, guard⟩ := o
  have lft : ∀ {s : Sem Value}, (∃ r w', s.run P w = .ok r w' ∧ After w F A m H (withB A H.next) H' z r w') → H'.next = H.next + 1 → (do pure (Next.value (← s)) : Sem Next) = execOp a.eval { dst, op, type, pos, after, guard } →
      ∃ n r w' A', ((execOp a.eval { dst, op, type, pos, after, guard }).run P w = .ok (.value r) w' ∨ ((execOp a.eval { dst, op, type, pos, after, guard }).run P w = .ok .skip w' ∧ r = undef)) ∧ After w F A m H A' H' z r w' ∧
      ((n = 0 ∧ A' = A ∧ H'.next = H.next) ∨ (n = 1 ∧ A' = withB A H.next ∧ H'.next = H.next + 1)) :=
    fun ⟨r, w', h1, h2⟩ h3 h4 => ⟨1, r, w', _, .inl (by rw [← h4]; simp [h1]), h2, .inr ⟨rfl, rfl, h3⟩⟩
  have pureCase : ∀ {o : Oper}, (∃ v, aval P fr.eval o.op = some v ∧ some (v, H) = some (z, H')) →
      ∃ n r w' A', ((execOp a.eval o).run P w = .ok (.value r) w' ∨ ((execOp a.eval o).run P w = .ok .skip w' ∧ r = undef)) ∧ After w F A m H A' H' z r w' ∧
      ((n = 0 ∧ A' = A ∧ H'.next = H.next) ∨ (n = 1 ∧ A' = withB A H.next ∧ H'.next = H.next + 1)) := by
    rintro o ⟨v, hv, he⟩
    simp only [Option.some.injEq, Prod.mk.injEq] at he
    obtain ⟨rfl, rfl⟩ := he
    obtain ⟨r, h1, h2⟩ := aval_sound (w := w) hv hf
    exact ⟨0, r, w, A, .inl h1, ⟨F, m, I, h2, Evo.refl⟩, .inl ⟨rfl, rfl, rfl⟩⟩
  have pureOp : ∀ {o : Oper}, lift (aval P fr.eval o.op) H = some (z, H') →
      ∃ v, aval P fr.eval o.op = some v ∧ some (v, H) = some (z, H') := by
    intro o h
    unfold lift at h
    split at h
    · rename_i v hv; exact ⟨v, hv, h⟩
    · cases h
  unfold aop at h
  cases op
  case alloc e => exact lft (aalloc_sound h I hn) (aalloc_next h) rfl
  case box e x => exact lft (abox_sound h I hn (hf.eval x)) (abox_next h) rfl
  case buildSlice t n parts => exact lft (abuildSlice_sound h I hn (parts_rel hf parts).1 (parts_rel hf parts).2) (abuildSlice_next h) rfl
  case makeSlice t l c => exact lft (amake_sound h I hn (hf.eval l) (hf.eval c)) (amake_next h) rfl
  case load t x =>
    unfold lift at h
    dsimp only at h
    split at h <;> try (cases h; done)
    rename_i v hv
    simp only [Option.some.injEq, Prod.mk.injEq] at h
    obtain ⟨rfl, rfl⟩ := h
    obtain ⟨r, h1, h2⟩ := aload_sound hv I (hf.eval x)
    exact ⟨0, r, w, A, .inl (by simp [execOp, h1]), ⟨F, m, I, h2, Evo.refl⟩, .inl ⟨rfl, rfl, rfl⟩⟩
  case store t x y =>
    unfold liftS at h
    dsimp only at h
    split at h <;> try (cases h; done)
    rename_i H1 hv
    simp only [Option.some.injEq, Prod.mk.injEq] at h
    obtain ⟨rfl, rfl⟩ := h
    obtain ⟨w', h1, h2, h3⟩ := astore_sound hv I (hf.eval x) (hf.eval y)
    refine ⟨0, undef, w', A, .inr ⟨by simp [execOp, h1], rfl⟩, ⟨F, m, h2, .undef _, h3⟩, .inl ⟨rfl, rfl, ?_⟩⟩
    unfold astore astoreR at hv
    repeat' split at hv
    all_goals first | (cases hv; done) | skip
    simp only [Option.some.injEq] at hv
    rw [← hv]; rfl
  case call c =>
    obtain ⟨callee, args, argTypes⟩ := c
    dsimp only at h
    unfold acallOp at h
    clear lft
    cases callee with
    | value f => exact absurd rfl (hc _ rfl f)
    | invoke r n => cases h
    | builtin b =>
      dsimp only at h
      have other : lift (aval P fr.eval (.call { callee := .builtin b, args, argTypes })) H = some (z, H') →
          ∃ n r w' A', ((execOp a.eval { dst, op := .call { callee := .builtin b, args, argTypes }, type, pos, after, guard }).run P w = .ok (.value r) w' ∨ ((execOp a.eval { dst, op := .call { callee := .builtin b, args, argTypes }, type, pos, after, guard }).run P w = .ok .skip w' ∧ r = undef)) ∧ After w F A m H A' H' z r w' ∧
          ((n = 0 ∧ A' = A ∧ H'.next = H.next) ∨ (n = 1 ∧ A' = withB A H.next ∧ H'.next = H.next + 1)) := fun h => pureCase (o := { dst, op := .call { callee := .builtin b, args, argTypes }, type, pos, after, guard }) (pureOp (o := { dst, op := .call { callee := .builtin b, args, argTypes }, type, pos, after, guard }) h)
      by_cases hb : b = .append
      · subst hb
        dsimp only at h
        split at h <;> try (cases h; done)
        rename_i s x t t' ha ht
        have ha : args = #[s, x] := Array.toList_inj.1 ha
        have ht : argTypes = #[t, t'] := Array.toList_inj.1 ht
        split at h
        · rename_i htt
          subst htt
          subst ha ht
          obtain ⟨r, w', h1, h2⟩ := aappend_sound (ty := type) h I hn (hf.eval s) (hf.eval x)
          exact ⟨1, r, w', _, .inl (by simp [execOp, resolve, invoke, builtin, h1]), h2, .inr ⟨rfl, rfl, aappend_next h⟩⟩
        · subst ha ht
          obtain ⟨r, w', h1, h2⟩ := aappendZ_sound (ty := type) h I hn (hf.eval s) (hf.eval x)
          exact ⟨1, r, w', _, .inl (by simp [execOp, resolve, invoke, builtin, h1]), h2, .inr ⟨rfl, rfl, aappendZ_next h⟩⟩
      · by_cases hb2 : b = .copy
        · subst hb2
          dsimp only at h
          split at h <;> try (cases h; done)
          rename_i d s t t' ha ht
          split at h <;> try (cases h; done)
          rename_i htt
          subst htt
          have ha : args = #[d, s] := Array.toList_inj.1 ha
          have ht : argTypes = #[t, t] := Array.toList_inj.1 ht
          subst ha ht
          obtain ⟨r, w', h1, h2⟩ := acopy_sound (ty := type) h I (hf.eval d) (hf.eval s)
          exact ⟨0, r, w', A, .inl (by simp [execOp, resolve, invoke, builtin, h1]), h2, .inl ⟨rfl, rfl, acopy_next h⟩⟩
        · by_cases hb3 : b = .clear
          · subst hb3
            dsimp only at h
            split at h <;> try (cases h; done)
            rename_i d t ha ht
            have ha : args = #[d] := Array.toList_inj.1 ha
            have ht : argTypes = #[t] := Array.toList_inj.1 ht
            subst ha ht
            obtain ⟨r, w', h1, h2⟩ := aclear_sound (ty := type) h I (hf.eval d)
            exact ⟨0, r, w', A, .inl (by simp [execOp, resolve, invoke, builtin, h1]), h2, .inl ⟨rfl, rfl, aclear_next h⟩⟩
          · refine other ?_
            cases b <;> first | exact absurd rfl hb | exact absurd rfl hb2 | exact absurd rfl hb3 | exact h
  all_goals exact pureCase (pureOp (o := { dst, op := _, type, pos, after, guard }) h)
theorem aop_sound (hC : Tab.Sound P C) {fr : AFr} {a : Act} {o : Oper} {z : AV} {H' : AHeap} (h : aop P C fr.eval H o.op = some (z, H')) (I : Inv w F (Nx H) m H) (hf : RF w F (Nx H) m fr a.tmps)
    {next : Act → World → Prop} {Q : Exit → Act → World → Prop}
    (hk : ∀ r w' F' m', Inv w' F' (Nx H') m' H' → RV w' F' (Nx H') m' z r → Evo w F (Nx H) m H w' F' (Nx H') m' H' → next (a.put o.dst r) w') : o.wp P a w next Q := by
  by_cases hc : ∀ c, o.op = .call c → ∀ f, c.callee ≠ .value f
  · obtain ⟨n, r, w', A', hr, ⟨F', m', h1, h2, h3⟩, hA⟩ := aop_alone h hc I (by simp [Nx]) hf
    have hA' : A' = Nx H' := by
      rcases hA with ⟨_, rfl, h⟩ | ⟨_, rfl, h⟩
      · funext b; simp only [Nx]; rw [h]
      · exact (nx_succ h).symm
    subst hA'
    unfold Oper.wp
    rcases hr with hr | ⟨hr, rfl⟩
    · rw [hr]; exact hk r w' F' m' h1 h2 h3
    · rw [hr]; exact hk undef w' F' m' h1 h2 h3
  · obtain ⟨dst, op, type, pos, after, guard⟩ := o
    obtain ⟨c, hc⟩ := Classical.not_forall.1 hc
    obtain ⟨hcc, hc⟩ := Classical.not_forall.1 hc
    obtain ⟨f, hc⟩ := Classical.not_forall.1 hc
    have hcf := Classical.not_not.1 hc
    simp only at hcc
    subst hcc
    obtain ⟨callee, args, argTypes⟩ := c
    simp only at hcf
    subst hcf
    simp only [aop, acallOp, acallClo] at h
    split at h <;> try (cases h; done)
    rename_i g first caps hg
    have hv := hf.eval f
    rw [hg] at hv
    generalize hu : a.eval f = u at hv
    cases hv with
    | clo g first caps vs us hl hl' h1 h2 =>
      have hargs : RLs w F (Nx H) m (first ++ args.toList.map fr.eval ++ caps) (vs ++ args.map a.eval ++ us) := by
        refine ⟨by simp [hl, hl'], fun i x y h3 h4 => ?_⟩
        simp only [Array.toList_append, Array.toList_map] at h4
        rw [List.getElem?_append] at h3 h4
        simp only [List.length_append, List.length_map, Array.length_toList, ← hl] at h3 h4
        split at h3
        · rename_i hi
          rw [if_pos hi] at h4
          rw [List.getElem?_append] at h3 h4
          simp only [Array.length_toList, ← hl] at h4
          split at h3
          · rename_i hi2
            rw [if_pos hi2] at h4
            exact h1 i x y h3 (by simpa using h4)
          · rename_i hi2
            rw [if_neg hi2] at h4
            simp only [List.getElem?_map, Option.map_eq_some_iff] at h3 h4
            obtain ⟨p0, e1, rfl⟩ := h3
            obtain ⟨p1, e2, rfl⟩ := h4
            rw [e1] at e2
            simp only [Option.some.injEq] at e2
            subst e2
            exact hf.eval _
        · rename_i hi
          rw [if_neg hi] at h4
          exact h2 _ x y h3 (by simpa using h4)
      obtain ⟨hcl, hcalls⟩ := acall_sound (f := g) (tys := argTypes.toList) h (fun k hk => hC g k hk) I hargs
      have hrun : (execOp a.eval { dst, op := .call { callee := .value f, args, argTypes }, type, pos, after, guard }).run P w = .ok (.enter g (vs ++ args.map a.eval ++ us)) w := by
        simp [execOp, resolve, Deferred.ofValue, hu, invoke, hcl (vs ++ (Array.map a.eval args ++ us)) w]
      unfold Oper.wp
      rw [hrun]
      refine Calls.mono hcalls ?_
      rintro e w' ⟨v, F', m', rfl, p1, p2, p3⟩
      exact hk v w' F' m' p1 p2 p3
end
end Go.Abs
end
section
set_option linter.unusedSimpArgs false
set_option linter.unusedVariables false
namespace Go.Abs
inductive AEx where
  | normal
  | exit (id : Nat)
  | ret
abbrev ARes := Option (AEx × AFr × AHeap)
def aiter (f : AFr → AHeap → ARes) : Nat → AFr → AHeap → ARes
  | 0, _, _ => none
  | n + 1, fr, H => match f fr H with
    | some (.normal, fr', H') => aiter f n fr' H'
    | r => r
open Classical in
noncomputable def aloop (f : AFr → AHeap → ARes) (fr : AFr) (H : AHeap) : ARes :=
  if h : ∃ r n, aiter f n fr H = some r then some h.choose else none
theorem aiter_mono {f : AFr → AHeap → ARes} : ∀ {n : Nat} {fr : AFr} {H : AHeap} {r : AEx × AFr × AHeap} (k : Nat), aiter f n fr H = some r → aiter f (n + k) fr H = some r
  | 0, _, _, _, _, h => by simp [aiter] at h
  | n + 1, fr, H, r, k, h => by
    rw [show n + 1 + k = (n + k) + 1 from by omega]
    simp only [aiter] at h ⊢
    split at h
    · exact aiter_mono k h
    · exact h
theorem aloop_of_iter {f : AFr → AHeap → ARes} {n : Nat} {fr : AFr} {H : AHeap} {r : AEx × AFr × AHeap} (h : aiter f n fr H = some r) : aloop f fr H = some r := by
  have hex : ∃ r n, aiter f n fr H = some r := ⟨r, n, h⟩
  unfold aloop
  rw [dif_pos hex]
  obtain ⟨k, hk⟩ := hex.choose_spec
  have h1 := aiter_mono k h
  have h2 := aiter_mono n hk
  rw [Nat.add_comm] at h2
  rw [h1] at h2
  exact h2.symm
theorem iter_of_aloop {f : AFr → AHeap → ARes} {fr : AFr} {H : AHeap} {r : AEx × AFr × AHeap} (h : aloop f fr H = some r) : ∃ n, aiter f n fr H = some r := by
  unfold aloop at h
  split at h
  · rename_i hex
    simp only [Option.some.injEq] at h
    exact h ▸ hex.choose_spec
  · cases h
theorem aloop_eq (f : AFr → AHeap → ARes) (fr : AFr) (H : AHeap) : aloop f fr H = match f fr H with
    | some (.normal, fr', H') => aloop f fr' H'
    | r => r := by
  cases hf : f fr H with
  | none =>
    dsimp only
    cases h : aloop f fr H with
    | none => rfl
    | some r =>
      obtain ⟨n, hn⟩ := iter_of_aloop h
      cases n with
      | zero => simp [aiter] at hn
      | succ n => simp [aiter, hf] at hn
  | some x =>
    obtain ⟨e, fr', H'⟩ := x
    cases e
    case normal =>
      dsimp only
      cases h : aloop f fr' H' with
      | some r =>
        obtain ⟨n, hn⟩ := iter_of_aloop h
        exact aloop_of_iter (n := n + 1) (by simp [aiter, hf, hn])
      | none =>
        cases h2 : aloop f fr H with
        | none => rfl
        | some r =>
          obtain ⟨n, hn⟩ := iter_of_aloop h2
          cases n with
          | zero => simp [aiter] at hn
          | succ n =>
            simp only [aiter, hf] at hn
            rw [aloop_of_iter hn] at h
            cases h
    all_goals exact aloop_of_iter (n := 1) (by simp [aiter, hf])
def aexit (id : Nat) : ARes → ARes
  | some (.exit k, fr, H) => if k = id then some (.normal, fr, H) else some (.exit k, fr, H)
  | r => r
def aseq (r : ARes) (k : AFr → AHeap → ARes) : ARes :=
  match r with
  | some (.normal, fr, H) => k fr H
  | r => r
def acond (v : AV) (x y : ARes) : ARes :=
  match v with
  | .bool t => if t then x else y
  | _ => none
def areg (r : Option (AFr × AHeap)) : ARes :=
  match r with
  | some (fr, H) => some (.normal, fr, H)
  | none => none
structure Draws (P : Program) (C : Tab) where
  run : Array Oper → List Nat → AFr → AHeap → Option (AFr × AHeap)
  sound : Tab.Sound P C → ∀ (ops : Array Oper) (l : List Nat) (fr : AFr) (H : AHeap) (fr' : AFr) (H' : AHeap), run ops l fr H = some (fr', H') →
    ∀ (w : World) (F : Nat → Prop) (m : Nat → Nat) (a : Act) (n : Nat) (ds : List Deferred), ops.toList.all (dstOk n) = true → Inv w F (Nx H) m H → RF w F (Nx H) m fr a.tmps → a.tmps.size = n → a.defers = ds → P.follows .mixedOrders = true →
    ∀ (Q : Exit → Act → World → Prop), (∀ a' w' F' m', Inv w' F' (Nx H') m' H' → RF w' F' (Nx H') m' fr' a'.tmps → a'.tmps.size = n → a'.defers = ds → Evo w F (Nx H) m H w' F' (Nx H') m' H' → Q .normal a' w') →
    wpAny P .any ops Q ops.size (Array.replicate ops.size false) a w
def AFr.puts (fr : AFr) : List Nat → List AV → AFr
  | p :: ps, v :: vs => (fr.upd p v).puts ps vs
  | _, _ => fr
def athen (r : ARes) (k : AFr → AHeap → ARes) : ARes :=
  match r with
  | some (.normal, fr, H) => k fr H
  | _ => none
open Classical in
noncomputable def aeach (spec : List AV → AHeap → Option (List (List AV))) (caps : List AV) (all : List (List AV)) (round : List AV → AHeap → ARes) (fr : AFr) : List (List AV) → AHeap → ARes
  | [], H => if spec caps H = some all then some (.normal, fr, H) else none
  | x :: xs, H => if spec caps H = some all then
      match round x H with
      | some (.normal, _, H') => aeach spec caps all round fr xs H'
      | some (e, _, H') => some (e, fr, H')
      | none => none
    else none
def agenI (next : Nat → AHeap → Option (Option (List AV × Bool) × AHeap)) (round : List AV → AHeap → ARes) : Nat → Nat → AHeap → Option (AEx × AHeap)
  | 0, _, _ => none
  | n + 1, k, H => match next k H with
    | none => none
    | some (none, H1) => some (.normal, H1)
    | some (some (xs, more), H1) => match round xs H1 with
      | some (.normal, _, H2) => if more = true then agenI next round n (k + 1) H2 else some (.normal, H2)
      | some (e, _, H2) => some (e, H2)
      | none => none
open Classical in
noncomputable def agenL (next : Nat → AHeap → Option (Option (List AV × Bool) × AHeap)) (round : List AV → AHeap → ARes) (k : Nat) (H : AHeap) : Option (AEx × AHeap) :=
  if h : ∃ r n, agenI next round n k H = some r then some h.choose else none
theorem agenL_iter {next : Nat → AHeap → Option (Option (List AV × Bool) × AHeap)} {round : List AV → AHeap → ARes} {k : Nat} {H : AHeap} {r : AEx × AHeap} (h : agenL next round k H = some r) : ∃ n, agenI next round n k H = some r := by
  unfold agenL at h
  split at h
  · rename_i hex
    simp only [Option.some.injEq] at h
    exact h ▸ hex.choose_spec
  · cases h
noncomputable def agen (start : List AV → AHeap → Option (AV × AHeap)) (next : Nat → AV → AHeap → Option (Option (List AV × Bool) × AHeap)) (caps : List AV) (ps : List Nat) (round : AFr → AHeap → ARes) (fr : AFr) (H : AHeap) : ARes :=
  match start caps H with
  | some (st, H0) => match agenL (fun k H => next k st H) (fun xs H => if xs.length = ps.length then round (fr.puts ps xs) H else none) 0 H0 with
    | some (e, H') => some (e, fr, H')
    | none => none
  | none => none
noncomputable def arange (C : Tab) (v : AV) (ps : List Nat) (round : AFr → AHeap → ARes) (fr : AFr) (H : AHeap) : ARes :=
  match v with
  | .clo f [] caps => match C f with
    | some (.iter spec) => match spec caps H with
      | some xs => if xs.all (fun x => x.length == ps.length && x.all AV.isLit) then aeach spec caps xs (fun x H => round (fr.puts ps x) H) fr xs H else none
      | none => none
    | some (.gen start next) => agen start next caps ps round fr H
    | _ => none
  | _ => none
noncomputable def acode (P : Program) (C : Tab) (D : Draws P C) (K : Nat → List Nat) : Code → AFr → AHeap → ARes
  | .skip, fr, H => some (.normal, fr, H)
  | .region id ops draw, fr, H => if draw then areg (D.run ops (K id) fr H) else areg (aops P C ops (K id) ops.toList fr H)
  | .seq a b, fr, H => aseq (acode P C D K a fr H) (acode P C D K b)
  | .cond c a b, fr, H => acond (fr.eval c) (acode P C D K a fr H) (acode P C D K b fr H)
  | .block id b, fr, H => aexit id (acode P C D K b fr H)
  | .loop b, fr, H => aloop (acode P C D K b) fr H
  | .exit id, fr, H => some (.exit id, fr, H)
  | .ret, fr, H => some (.ret, fr, H)
  | .rangeFunc g ps assign body, fr, H => arange C (fr.eval g) ps.toList (fun fr H => athen (acode P C D K assign fr H) (acode P C D K body)) fr H
  | _, _, _ => none
def noDefer (o : Oper) : Bool := match o.op with | .defer _ => false | _ => true
def flatC : Code → Bool
  | .seq a b => flatC a && flatC b
  | .cond _ a b => flatC a && flatC b
  | .block _ b => flatC b
  | .loop b => flatC b
  | .rangeFunc .. => false
  | _ => true
def codeOk (n : Nat) : Code → Bool
  | .region _ ops _ => ops.toList.all (dstOk n) && ops.toList.all noDefer
  | .seq a b => codeOk n a && codeOk n b
  | .cond _ a b => codeOk n a && codeOk n b
  | .block _ b => codeOk n b
  | .loop b => codeOk n b
  | .rangeFunc _ ps a b => codeOk n a && codeOk n b && flatC a && flatC b && ps.toList.all (fun p => decide (p < n))
  | _ => true
def AEx.toExit : AEx → Exit
  | .normal => .normal
  | .exit id => .exit id
  | .ret => .ret
section
variable {P : Program} {C : Tab}
abbrev FW (ro : Option Nat) : Fence := { Fence.wide with round := ro }
def Marks (w : World) (F : Nat → Prop) (lo : Nat) : Nat → List Deferred → Prop
  | _, [] => True
  | b, d :: ds => ∃ D, d = { target := .collected D, args := #[] } ∧ lo ≤ D ∧ D < b ∧ F D ∧ w.heap[D]? = some (.deferred (some [])) ∧ Marks w F lo D ds
theorem Marks.mono {w : World} {F : Nat → Prop} {lo : Nat} : ∀ {ds : List Deferred} {b b' : Nat}, b ≤ b' → Marks w F lo b ds → Marks w F lo b' ds
  | [], _, _, _, _ => trivial
  | _ :: _, _, _, hb, ⟨D, h1, h2, h3, h4⟩ => ⟨D, h1, h2, Nat.lt_of_lt_of_le h3 hb, h4⟩
theorem Inv.not_own {w : World} {F A : Nat → Prop} {m : Nat → Nat} {H : AHeap} (I : Inv w F A m H) {r : Nat} {o : Obj} (ho : w.heap[r]? = some o) (hc : o.isCells = false) : ∀ b blk, H.get b = some blk → m b ≠ r := fun b blk hb he => by
  obtain ⟨c, h1, _⟩ := I.blk b blk hb
  rw [he, ho] at h1
  simp only [Option.some.injEq] at h1
  subst h1
  simp [Obj.isCells] at hc
theorem Marks.evo {w w' : World} {F F' A A' : Nat → Prop} {m m' : Nat → Nat} {H H' : AHeap} {lo : Nat} (I : Inv w F A m H) (E : Evo w F A m H w' F' A' m' H') : ∀ {ds : List Deferred} {b : Nat}, b ≤ w.heap.size → Marks w F lo b ds → Marks w' F' lo b ds
  | [], _, _, _ => trivial
  | _ :: _, _, hb, ⟨D, h1, h2, h3, h4, h5, h6⟩ => by
    have hn := I.not_own h5 rfl
    exact ⟨D, h1, h2, h3, E.keep D (by omega) h4 hn, (E.same D (by omega) hn).trans h5, Marks.evo I E (by omega) h6⟩
structure St (lo n : Nat) (w : World) (F : Nat → Prop) (m : Nat → Nat) (fr : AFr) (H : AHeap) (a : Act) : Prop where
  inv : Inv w F (Nx H) m H
  fr : RF w F (Nx H) m fr a.tmps
  size : a.tmps.size = n
  defers : Marks w F lo w.heap.size a.defers
  lo : lo ≤ w.heap.size
theorem St.only {lo n : Nat} {w : World} {F : Nat → Prop} {m : Nat → Nat} {fr : AFr} {H : AHeap} {a : Act} (S : St lo n w F m fr H a) (l : List Nat) : St lo n w F m (fr.only l) H a :=
  ⟨S.inv, fun t => by rcases AFr.only_or fr l t with h | h <;> rw [h]; exact S.fr t; exact .undef _, S.size, S.defers, S.lo⟩
theorem guard_sound {ops : Array Oper} {fr : AFr} {o : Oper} {b : Bool} {w : World} {F A : Nat → Prop} {m : Nat → Nat} {a : Act} (h : aguard ops fr o = some b) (hf : RF w F A m fr a.tmps) :
    Region.wanted o (yielded ops a.tmps) = b := by
  unfold aguard at h
  unfold Region.wanted
  split at h
  · rename_i hg; rw [hg]; simpa using h
  · rename_i j want hg
    rw [hg]
    dsimp only
    split at h <;> try (cases h; done)
    rename_i t ht
    unfold gw at h
    have hv := hf t
    split at h <;> try (cases h; done)
    · rename_i x hx
      simp only [Option.some.injEq] at h
      rw [hx] at hv
      have hy : yielded ops a.tmps j = some x := by
        unfold yielded
        rw [ht]
        simp only [Option.bind_some]
        generalize hq : a.tmps.getD t undef = u at hv
        cases hv
        have : a.tmps[t]? = some (.bool x) := by
          rw [Array.getD_eq_getD_getElem?] at hq
          cases h : a.tmps[t]? with
          | none => rw [h] at hq; simp [undef] at hq
          | some u => rw [h] at hq; simpa using hq
        rw [this]
      rw [hy, ← h]
      cases x <;> cases want <;> rfl
    · rename_i hx
      simp only [Option.some.injEq] at h
      rw [hx] at hv
      have hy : yielded ops a.tmps j = none := by
        unfold yielded
        rw [ht]
        simp only [Option.bind_some]
        generalize hq : a.tmps.getD t undef = u at hv
        cases hv with
        | tup _ vs hl _ =>
          rw [Array.getD_eq_getD_getElem?] at hq
          cases h : a.tmps[t]? with
          | none => rfl
          | some u => rw [h] at hq; simp only [Option.getD_some] at hq; subst hq; rfl
      rw [hy, ← h]
      cases want <;> rfl
theorem RF.evo {w w' : World} {F F' A A' : Nat → Prop} {m m' : Nat → Nat} {H H' : AHeap} {fr : AFr} {t : Array Value} (hf : RF w F A m fr t) (I : Inv w F A m H) (E : Evo w F A m H w' F' A' m' H') : RF w' F' A' m' fr t :=
  fun i => E.rv I (hf i)
theorem size_put (a : Act) (d : Option Tmp) (v : Value) : (a.put d v).tmps.size = a.tmps.size := by cases d <;> simp [Act.put]
theorem defers_put (a : Act) (d : Option Tmp) (v : Value) : (a.put d v).defers = a.defers := by cases d <;> rfl
theorem aops_sound (hC : Tab.Sound P C) {lo n : Nat} {ops : Array Oper} (hd : ops.toList.all (dstOk n) = true) {Q : Exit → Act → World → Prop} {fr' : AFr} {H' : AHeap} {l : List Nat} :
    ∀ (rest : List Oper) (k : Nat) (fr : AFr) (H : AHeap) (w : World) (F : Nat → Prop) (m : Nat → Nat) (a : Act), rest = ops.toList.drop k → aops P C ops l rest fr H = some (fr', H') → St lo n w F m fr H a →
      (∀ a' w' F' m', St lo n w' F' m' fr' H' a' → Evo w F (Nx H) m H w' F' (Nx H') m' H' → Q .normal a' w') → wpOps P ops Q (List.range' k rest.length) a w
  | [], k, fr, H, w, F, m, a, _, h, S, hk => by
    simp only [aops, Option.some.injEq, Prod.mk.injEq] at h
    obtain ⟨rfl, rfl⟩ := h
    exact hk a w F m (S.only l) Evo.refl
  | o :: rest, k, fr, H, w, F, m, a, hrest, h, S, hk => by
    have ho : ops[k]? = some o := by
      have : ops.toList[k]? = some o := by
        have := congrArg List.head? hrest
        simpa [List.head?_drop] using this.symm
      simpa using this
    have hrest' : rest = ops.toList.drop (k + 1) := by
      have := congrArg List.tail hrest
      simpa [List.tail_drop] using this
    have hdo : ∀ d, o.dst = some d → d < a.tmps.size := fun d hd' => by
      have hmem : o ∈ ops.toList := List.mem_of_getElem? (by simpa using ho)
      have := List.all_eq_true.1 hd o hmem
      simp only [dstOk, hd', decide_eq_true_eq] at this
      rw [S.size]; exact this
    rw [aops_cons] at h
    simp only [List.length_cons, List.range'_succ, wpOps, ho]
    unfold op at h
    split at h <;> try (cases h; done)
    rename_i v H1 hst
    unfold astep gd at hst
    split at hst <;> try (cases hst; done)
    rename_i b hg
    rw [guard_sound hg S.fr]
    cases b
    · simp only [Bool.false_eq_true, if_false, Option.some.injEq, Prod.mk.injEq] at hst ⊢
      obtain ⟨rfl, rfl⟩ := hst
      exact aops_sound hC hd rest (k + 1) _ H w F m _ hrest' h ⟨S.inv, S.fr.put hdo .skip, by rw [size_put]; exact S.size, by rw [defers_put]; exact S.defers, S.lo⟩ hk
    · simp only [if_true] at hst ⊢
      refine .inl (aop_sound hC hst S.inv S.fr fun r w' F1 m1 I1 hv E1 => ?_)
      exact aops_sound hC hd rest (k + 1) _ H1 w' F1 m1 _ hrest' h ⟨I1, (S.fr.evo S.inv E1).put hdo hv, by rw [size_put]; exact S.size, by rw [defers_put]; exact (S.defers.evo S.inv E1 (Nat.le_refl _)).mono E1.size, Nat.le_trans S.lo E1.size⟩
        fun a' w'' F' m' S' E' => hk a' w'' F' m' S' (E1.trans E')
theorem rowsIn_FW {ro : Option Nat} {n : Nat} {row : String} {args : Array Value} {w : World} {R : Value → World → Prop} (h : Rows P row args w R) : RowsIn (FW ro) n P row args w R :=
  fun c cs _ => let ⟨v, w', r, s⟩ := h c cs; ⟨v, w', r, stepsIn_wide.2 s⟩
theorem callsIn_FW {ro : Option Nat} {n : Nat} {f : FuncId} {args : Array Value} {w : World} {R : Ending → World → Prop} (h : Calls P f args w R) : CallsIn (FW ro) n P f args w R :=
  (callsIn_wide (n := n)).2 h
theorem wpIn_of_wp {ro : Option Nat} {o : Oper} (hnd : noDefer o = true) {a : Act} {w : World} {next next' : Act → World → Prop} {Q : Exit → Act → World → Prop} (hn : ∀ a w, next a w → next' a w) (h : o.wp P a w next Q) :
    o.wpIn (FW ro) 0 P a w next' Q := by
  refine ⟨fun _ _ => trivial, ?_⟩
  have hnd' : ∀ c, o.op ≠ .defer c := fun c hc => by simp [noDefer, hc] at hnd
  rw [Oper.semAt_eq _ _ _ hnd']
  unfold Oper.wp at h
  generalize (execOp a.eval o).run P w = r at *
  cases r with
  | ok v w' =>
    cases v <;> simp only [Oper.upon] at h <;> simp only [Oper.uponIn]
    all_goals first
      | exact hn _ _ h
      | exact h.elim
      | exact ⟨fun q => by simp [FW, Fence.wide] at q, callsIn_FW (h.mono fun e w'' he => by cases e <;> first | exact hn _ _ he | exact he)⟩
      | exact ⟨fun q => by simp [FW, Fence.wide] at q, rowsIn_FW (h.mono fun _ _ he => hn _ _ he)⟩
  | halt x w' =>
    cases x <;> simp only [Oper.upon] at h <;> simp only [Oper.uponIn]
    all_goals first | exact h | exact h.elim
theorem wpOpsIn_of {ro : Option Nat} {ops : Array Oper} {Q : Exit → Act → World → Prop} (hnd : ops.toList.all noDefer = true) (hQ : ¬ LetsOut Q) : ∀ (l : List Nat) (a : Act) (w : World), wpOps P ops Q l a w → wpOpsIn (FW ro) 0 P ops Q l a w
  | [], _, _, h => h
  | i :: rest, a, w, h => by
    simp only [wpOps] at h
    simp only [wpOpsIn]
    split
    · rename_i ho
      rw [ho] at h
      exact wpOpsIn_of hnd hQ rest a w h
    · rename_i o ho
      rw [ho] at h
      dsimp only at h
      split
      · rename_i hw
        rw [if_pos hw] at h
        rcases h with h | h
        · exact wpIn_of_wp (List.all_eq_true.1 hnd o (List.mem_of_getElem? (by simpa using ho))) (fun a w => wpOpsIn_of hnd hQ rest a w) h
        · exact (hQ h.2).elim
      · rename_i hw
        rw [if_neg hw] at h
        exact ⟨fun _ _ => trivial, wpOpsIn_of hnd hQ rest _ w h⟩
theorem wpIn_region_anyFW {ro : Option Nat} {id : Nat} {ops : Array Oper} {Q : Exit → Act → World → Prop} {a : Act} {w : World} (hnd : ops.toList.all noDefer = true) (hQ : ¬ LetsOut Q) (hm : P.follows .mixedOrders = true)
    (h : wpAny P .any ops Q ops.size (Array.replicate ops.size false) a { w with drawn := w.drawn + 1 }) : (Code.region id ops true).wpIn (FW ro) 0 P Q a w :=
  wpIn_region_draw fun t => by
    simp only [Region.schedule, hm, Bool.true_or, if_true]
    exact wpOpsIn_of hnd hQ _ _ _ (wpAny_sound ops.size t _ a _ h)
section put
variable {w : World} {F A : Nat → Prop} {m : Nat → Nat} {H : AHeap} {r : Nat} {o o' : Obj}
theorem put_shape (ho : w.heap[r]? = some o) (h1 : o.isCells = false) (h2 : o'.isCells = false) (cb : Nat) : (w.putObj r o').shape? cb = w.shape? cb := by
  by_cases e : cb = r
  · subst e
    have := World.putObj_heap_same (w := w) (o := o') (Array.getElem?_eq_some_iff.1 ho).1
    simp only [World.shape?, this, ho]
    cases o <;> cases o' <;> simp_all [Obj.isCells]
  · exact shape?_of_heap (World.putObj_heap_other e)
theorem RV.put {a : AV} {v : Value} (hr : F r) (ho : w.heap[r]? = some o) (h1 : o.isCells = false) (h2 : o'.isCells = false) (h : RV w F A m a v) : RV (w.putObj r o') F A m a v :=
  h.mono (by simp) (fun cb _ => put_shape ho h1 h2 cb) (fun cb _ hF => World.putObj_heap_other (fun e => hF (e ▸ hr))) (fun _ _ h => h) (fun _ h => ⟨h, rfl⟩)
theorem Inv.put (I : Inv w F A m H) (hr : F r) (ho : w.heap[r]? = some o) (h1 : o.isCells = false) (h2 : o'.isCells = false) : Inv (w.putObj r o') F A m H where
  own := I.own
  inj := I.inj
  bound := fun cb h => by simpa using I.bound cb h
  blk := fun b blk hb => by
    obtain ⟨c, hc, q⟩ := I.blk b blk hb
    refine ⟨c, (World.putObj_heap_other (I.not_own ho h1 b blk hb)).trans hc, q.fits, q.wide, q.flat, fun i row j a p1 p2 => ?_⟩
    obtain ⟨v, p3, p4, p5⟩ := q.cell i row j a p1 p2
    exact ⟨v, p3, p4, p5.put hr ho h1 h2⟩
theorem Evo.put {w0 : World} {F0 A0 : Nat → Prop} {m0 : Nat → Nat} {H0 : AHeap} (E : Evo w0 F0 A0 m0 H0 w F A m H) (hr : w0.heap.size ≤ r) : Evo w0 F0 A0 m0 H0 (w.putObj r o') F A m H where
  os := E.os
  tape := E.tape
  output := E.output
  size := by simpa using E.size
  shape := fun cb h => (shape?_of_heap (World.putObj_heap_other (by omega))).trans (E.shape cb h)
  same := fun cb h hn => (World.putObj_heap_other (by omega)).trans (E.same cb h hn)
  forb := E.forb
  keep := E.keep
  ext := E.ext
  owns := E.owns
end put
theorem Marks.put {w : World} {F : Nat → Prop} {lo r : Nat} {x : Loop} {o' : Obj} (ho : w.heap[r]? = some (.loop x)) : ∀ {ds : List Deferred} {b : Nat}, Marks w F lo b ds → Marks (w.putObj r o') F lo b ds
  | [], _, _ => trivial
  | _ :: _, _, ⟨D, h1, h2, h3, h4, h5, h6⟩ => ⟨D, h1, h2, h3, h4, (World.putObj_heap_other (fun e => by rw [e, ho] at h5; cases h5)).trans h5, Marks.put ho h6⟩
theorem Marks.shut {w : World} {F : Nat → Prop} {lo D : Nat} {o' : Obj} : ∀ {ds : List Deferred} {b : Nat}, b ≤ D → Marks w F lo b ds → Marks (w.putObj D o') F lo b ds
  | [], _, _, _ => trivial
  | _ :: _, _, hb, ⟨D', h1, h2, h3, h4, h5, h6⟩ => ⟨D', h1, h2, h3, h4, (World.putObj_heap_other (by omega)).trans h5, Marks.shut (by omega) h6⟩
theorem below_of_grown {B B' : World} (h : B.grownBy B' none) : RowKit.Below B.heap.size B B' := ⟨h.os, h.tape, h.output, h.size, fun k hk => h.block k hk (by simp)⟩
theorem evo_laid {w : World} {F A : Nat → Prop} {m : Nat → Nat} {H : AHeap} (o o' : Obj) : Evo w F A m H ((w.alloc o).alloc o') (fun cb => F cb ∨ cb = w.heap.size ∨ cb = w.heap.size + 1) A m H where
  os := rfl
  tape := rfl
  output := rfl
  size := by simp; omega
  shape := fun cb h => shape?_of_heap ((RowKit.Below.heap_alloc _ _ cb (by simp; omega)).trans (RowKit.Below.heap_alloc _ _ cb h))
  same := fun cb h _ => (RowKit.Below.heap_alloc _ _ cb (by simp; omega)).trans (RowKit.Below.heap_alloc _ _ cb h)
  forb := fun cb h => by rcases h with h | h | h <;> first | exact .inl h | exact .inr (by omega)
  keep := fun _ _ h _ => .inl h
  ext := fun _ h => ⟨h, rfl⟩
  owns := fun b blk h => .inl ⟨b, blk, h, rfl⟩
theorem inv_laid {w : World} {F A : Nat → Prop} {m : Nat → Nat} {H : AHeap} (I : Inv w F A m H) (o o' : Obj) : Inv ((w.alloc o).alloc o') (fun cb => F cb ∨ cb = w.heap.size ∨ cb = w.heap.size + 1) A m H where
  own := fun b blk h => ⟨(I.own b blk h).1, .inl (I.own b blk h).2⟩
  inj := I.inj
  bound := fun cb h => by
    rcases h with h | h | h
    · have := I.bound cb h; simp; omega
    · simp; omega
    · simp; omega
  blk := fun b blk h => by
    have E := evo_laid (w := w) (F := F) (A := A) (m := m) (H := H) o o'
    obtain ⟨c, hc, q⟩ := I.blk b blk h
    have hlt := I.bound _ (I.own b blk h).2
    refine ⟨c, ((RowKit.Below.heap_alloc _ _ (m b) (by simp; omega)).trans (RowKit.Below.heap_alloc _ _ (m b) hlt)).trans hc, q.fits, q.wide, q.flat, fun i row j a p1 p2 => ?_⟩
    obtain ⟨v, p3, p4, p5⟩ := q.cell i row j a p1 p2
    exact ⟨v, p3, p4, E.rv I p5⟩
theorem rf_puts {w : World} {F A : Nat → Prop} {m : Nat → Nat} : ∀ (ps : List Nat) (xs : List AV) (fr : AFr) (t : Array Value), RF w F A m fr t → xs.all AV.isLit = true → (∀ p, p ∈ ps → p < t.size) → ps.length = xs.length →
    RF w F A m (fr.puts ps xs) ((ps.zip (xs.map AV.toVal)).foldl (fun t (p, v) => t.setIfInBounds p v) t)
  | [], [], fr, t, h, _, _, _ => h
  | [], _ :: _, _, _, _, _, _, hl => by simp at hl
  | _ :: _, [], _, _, _, _, _, hl => by simp at hl
  | p :: ps, x :: xs, fr, t, h, hx, hp, hl => by
    simp only [List.all_cons, Bool.and_eq_true] at hx
    simp only [AFr.puts, List.map_cons, List.zip_cons_cons, List.foldl_cons]
    refine rf_puts ps xs _ _ ?_ hx.2 (fun q hq => by rw [Array.size_setIfInBounds]; exact hp q (by simp [hq])) (by simpa using hl)
    have hv : RV w F A m x x.toVal := by
      cases x <;> simp [AV.isLit] at hx <;> simp only [AV.toVal]
      · exact .int _ _
      · exact .bool _
    have := RF.put (a := { tmps := t, defers := [] }) (dst := some p) h (fun d hd => by cases hd; exact hp p (by simp)) hv
    exact this
theorem size_puts : ∀ (l : List (Nat × Value)) (t : Array Value), (l.foldl (fun t (p, v) => t.setIfInBounds p v) t).size = t.size
  | [], _ => rfl
  | _ :: l, t => by rw [List.foldl_cons, size_puts l, Array.size_setIfInBounds]
def AEx.toCode : AEx → Code
  | .normal => .skip
  | .exit id => .exit id
  | .ret => .ret
theorem rf_putsL {w : World} {F A : Nat → Prop} {m : Nat → Nat} : ∀ (ps : List Nat) (xs : List AV) (vs : List Value) (fr : AFr) (t : Array Value), RF w F A m fr t → RL w F A m xs vs → (∀ p, p ∈ ps → p < t.size) → ps.length = xs.length →
    RF w F A m (fr.puts ps xs) ((ps.zip vs).foldl (fun t (p, v) => t.setIfInBounds p v) t)
  | [], [], [], fr, t, h, _, _, _ => h
  | [], [], _ :: _, fr, t, h, hx, _, _ => by have := hx.1; simp at this
  | [], _ :: _, _, _, _, _, _, _, hl => by simp at hl
  | _ :: _, [], _, _, _, _, _, _, hl => by simp at hl
  | p :: ps, x :: xs, [], fr, t, h, hx, _, _ => by have := hx.1; simp at this
  | p :: ps, x :: xs, v :: vs, fr, t, h, hx, hp, hl => by
    simp only [AFr.puts, List.zip_cons_cons, List.foldl_cons]
    refine rf_putsL ps xs vs _ _ ?_ ⟨by have := hx.1; simpa using this, fun i a u h1 h2 => hx.2 (i + 1) a u (by simpa using h1) (by simpa using h2)⟩ (fun q hq => by rw [Array.size_setIfInBounds]; exact hp q (by simp [hq])) (by simpa using hl)
    have hv : RV w F A m x v := hx.2 0 x v rfl rfl
    have := RF.put (a := { tmps := t, defers := [] }) (dst := some p) h (fun d hd => by cases hd; exact hp p (by simp)) hv
    exact this
theorem agen_sound (hC : Tab.Sound P C) {lo n : Nat} {g : Operand} {ps : Array Tmp} {assign body : Code} {ra rb : AFr → AHeap → ARes} (hps : ∀ p, p ∈ ps.toList → p < n)
    (hA : ∀ (l : Nat) (fr : AFr) (H : AHeap) (e : AEx) (fr' : AFr) (H' : AHeap), ra fr H = some (e, fr', H') → ∀ (w : World) (F : Nat → Prop) (m : Nat → Nat) (a : Act), St 0 n w F m fr H a →
      assign.wpIn (FW (some l)) 0 P (fun x a' w' => x = e.toExit ∧ ∃ F' m', St 0 n w' F' m' fr' H' a' ∧ Evo w F (Nx H) m H w' F' (Nx H') m' H') a w)
    (hB : ∀ (l : Nat) (fr : AFr) (H : AHeap) (e : AEx) (fr' : AFr) (H' : AHeap), rb fr H = some (e, fr', H') → ∀ (w : World) (F : Nat → Prop) (m : Nat → Nat) (a : Act), St 0 n w F m fr H a →
      body.wpIn (FW (some l)) 0 P (fun x a' w' => x = e.toExit ∧ ∃ F' m', St 0 n w' F' m' fr' H' a' ∧ Evo w F (Nx H) m H w' F' (Nx H') m' H') a w)
    {fr : AFr} {H : AHeap} {e : AEx} {fr' : AFr} {H' : AHeap} {f : FuncId} {caps : List AV} {start : List AV → AHeap → Option (AV × AHeap)} {next : Nat → AV → AHeap → Option (Option (List AV × Bool) × AHeap)} (hg : fr.eval g = .clo f [] caps) (hCf : C f = some (.gen start next)) (h : agen start next caps ps.toList (fun fr H => athen (ra fr H) rb) fr H = some (e, fr', H'))
    {w : World} {F : Nat → Prop} {m : Nat → Nat} {a : Act} (S : St lo n w F m fr H a) :
    (Code.rangeFunc g ps assign body).wpIn (FW none) 0 P (fun x a' w' => x = e.toExit ∧ ∃ F' m', St lo n w' F' m' fr' H' a' ∧ Evo w F (Nx H) m H w' F' (Nx H') m' H') a w := by
  obtain ⟨hcl, hands⟩ := hC f _ hCf
  unfold agen at h
  split at h <;> try (cases h; done)
  rename_i st H0 hst
  split at h <;> try (cases h; done)
  rename_i e0 H0' hr0
  simp only [Option.some.injEq, Prod.mk.injEq] at h
  obtain ⟨rfl, rfl, rfl⟩ := h
  obtain ⟨q0, hq0⟩ := agenL_iter hr0
  have hv := S.fr.eval g
  rw [hg] at hv
  generalize hu : a.eval g = u at hv
  cases hv with
  | clo _ _ _ vs us hl hl' q1 q2 =>
  have hvs : vs = #[] := by
    have : vs.size = 0 := by simpa using hl.symm
    exact Array.eq_empty_of_size_eq_zero this
  subst hvs
  have hcaps : RLs w F (Nx H) m caps us := ⟨by simpa using hl', fun i x v p1 p2 => q2 i x v p1 (by simpa using p2)⟩
  refine wpIn_rangeFunc ?_
  intro fn _
  obtain ⟨rec, hrec⟩ : ∃ rec : LoopState → Option Code → Loop, rec = fun st pe => { state := st, pending := pe, fn, tmps := a.tmps, params := ps, assign, body, defers := w.heap.size } := ⟨_, rfl⟩
  obtain ⟨W1, hW1⟩ : ∃ W1, (w.alloc (.deferred (some []))).alloc (.loop (rec .ready none)) = W1 := ⟨_, rfl⟩
  have hL1 : W1.heap[w.heap.size + 1]? = some (.loop (rec .ready none)) := by
    rw [← hW1]; have := World.alloc_heap_new (w.alloc (.deferred (some []))) (.loop (rec .ready none)); rwa [World.size_alloc] at this
  have hK1 : W1.heap[w.heap.size]? = some (.deferred (some [])) := by
    rw [← hW1]; exact (RowKit.Below.heap_alloc _ _ _ (by simp)).trans (World.alloc_heap_new w _)
  have E1 : Evo w F (Nx H) m H W1 (fun cb => F cb ∨ cb = w.heap.size ∨ cb = w.heap.size + 1) (Nx H) m H := by rw [← hW1]; exact evo_laid _ _
  have I1 : Inv W1 (fun cb => F cb ∨ cb = w.heap.size ∨ cb = w.heap.size + 1) (Nx H) m H := by rw [← hW1]; exact inv_laid S.inv _ _
  refine ⟨w.heap.size + 1, [{ target := .collected w.heap.size, args := #[] }], W1, { target := .fn (.func f) us, args := #[.func (.yield (w.heap.size + 1)) #[] #[]] }, W1, f,
    #[.func (.yield (w.heap.size + 1)) #[] #[]] ++ us, W1, ?_, ?_, fun _ _ => trivial, ?_, fun q => by simp [FW, Fence.wide] at q, ?_⟩
  · rw [← hW1, hrec]; exact run_enterLoop_outer _ _ _ _ _
  · simp only [resolve, hu]
    simp [go_sem]
  · simp only [invoke]; exact hcl _ _
  generalize hround : (fun xs H => if xs.length = ps.toList.length then (fun fr H => athen (ra fr H) rb) (fr.puts ps.toList xs) H else none : List AV → AHeap → ARes) = round at hq0
  refine (hands caps us (w.heap.size + 1) st H H0
    (fun B Fk mk Hk => Evo w F (Nx H) m H B Fk (Nx Hk) mk Hk ∧ Fk w.heap.size ∧ Fk (w.heap.size + 1) ∧
      B.heap[w.heap.size + 1]? = some (.loop (rec .ready none)) ∧ B.heap[w.heap.size]? = some (.deferred (some [])))
    (fun B Fk mk Hk => Evo w F (Nx H) m H B Fk (Nx Hk) mk Hk ∧ Fk w.heap.size ∧ Fk (w.heap.size + 1) ∧
      B.heap[w.heap.size + 1]? = some (.loop (rec .done (some e0.toCode))) ∧ B.heap[w.heap.size]? = some (.deferred (some [])))
    (fun n k Hk => agenI (fun k H => next k st H) round n k Hk = some (e0, H0'))
    (fun n k more xs H1 => ∃ e1 fr1 H2, round xs H1 = some (e1, fr1, H2) ∧ ((e1 = .normal ∧ more = true ∧ agenI (fun k H => next k st H) round n (k + 1) H2 = some (e0, H0')) ∨ (e1 = .normal ∧ more = false ∧ e0 = .normal ∧ H0' = H2) ∨ (e1 ≠ .normal ∧ e0 = e1 ∧ H0' = H2)))
    (fun H2 => e0 = .normal ∧ H0' = H2) (fun H2 => e0 ≠ .normal ∧ H0' = H2)
    W1 _ m q0 hst I1 ⟨hcaps.1, fun i x v p1 p2 => E1.rv S.inv (hcaps.2 i x v p1 p2)⟩ ⟨E1, .inr (.inl rfl), .inr (.inr rfl), hL1, hK1⟩ hq0 ?_ ?_ ?_ ?_ ?_).mono ?_
  · rintro B F1 m1 H1 B' F2 m2 H2 ⟨h3, h4, h5, h6, h7⟩ hi hE
    have hn6 := hi.not_own h6 rfl
    have hn7 := hi.not_own h7 rfl
    have l6 := (Array.getElem?_eq_some_iff.1 h6).1
    have l7 := (Array.getElem?_eq_some_iff.1 h7).1
    exact ⟨h3.trans hE, hE.keep _ l7 h4 hn7, hE.keep _ l6 h5 hn6, (hE.same _ l6 hn6).trans h6, (hE.same _ l7 hn7).trans h7⟩
  · rintro B F1 m1 H1 B' F2 m2 H2 ⟨h3, h4, h5, h6, h7⟩ hi hE
    have hn6 := hi.not_own h6 rfl
    have hn7 := hi.not_own h7 rfl
    have l6 := (Array.getElem?_eq_some_iff.1 h6).1
    have l7 := (Array.getElem?_eq_some_iff.1 h7).1
    exact ⟨h3.trans hE, hE.keep _ l7 h4 hn7, hE.keep _ l6 h5 hn6, (hE.same _ l6 hn6).trans h6, (hE.same _ l7 hn7).trans h7⟩
  · intro k H h; simp [agenI] at h
  · intro n k Hk hk
    simp only [agenI] at hk
    split at hk
    · cases hk
    · rename_i H1 hn
      simp only [Option.some.injEq, Prod.mk.injEq] at hk
      exact .inl ⟨H1, hn, hk.1.symm, hk.2.symm⟩
    · rename_i xs more H1 hn
      refine .inr ⟨xs, more, H1, hn, ?_⟩
      split at hk
      · rename_i fr1 H2 hr
        split at hk
        · rename_i hm; exact ⟨.normal, fr1, H2, hr, .inl ⟨rfl, hm, hk⟩⟩
        · rename_i hm
          simp only [Option.some.injEq, Prod.mk.injEq] at hk
          exact ⟨.normal, fr1, H2, hr, .inr (.inl ⟨rfl, by simpa using hm, hk.1.symm, hk.2.symm⟩)⟩
      · rename_i e1 fr1 H2 hne hr
        simp only [Option.some.injEq, Prod.mk.injEq] at hk
        exact ⟨e1, fr1, H2, hr, .inr (.inr ⟨fun q => hne q, hk.1.symm, hk.2.symm⟩)⟩
      · cases hk
  ·
    rintro k i more x B Fk mk Hk us' ⟨h3, h4, h5, h6, h7⟩ h2 ⟨e1, fr1, H1, hr, hcase⟩ hxs
    rw [← hround] at hr
    dsimp only at hr
    split at hr <;> try (cases hr; done)
    rename_i hxl
    have hus : us'.size = ps.size := by have := hxs.1; simp at this; rw [← this, hxl]; simp
    have hy := run_yield (P := P) (args := us') h6 (by rw [hrec]; exact hus)
    rw [hrec] at hy
    refine ⟨fn, _, assign, body, hy, roundIn_of_wpIn trivial ?_⟩
    have hsz : (ps.zip us').foldl (fun t (p, v) => t.setIfInBounds p v) a.tmps = (ps.toList.zip us'.toList).foldl (fun t (p, v) => t.setIfInBounds p v) a.tmps := by
      rw [← Array.foldl_toList]; simp
    have S0 : St 0 n B Fk mk (fr.puts ps.toList x) Hk { tmps := (ps.zip us').foldl (fun t (p, v) => t.setIfInBounds p v) a.tmps, defers := [] } := by
      rw [hsz]
      exact ⟨h2, rf_putsL _ _ _ _ _ (S.fr.evo S.inv h3) hxs (fun p hp => by rw [S.size]; exact hps p hp) hxl.symm, by rw [size_puts]; exact S.size, trivial, Nat.zero_le _⟩
    unfold athen at hr
    split at hr <;> try (cases hr; done)
    rename_i fra Ha hra
    refine wpIn_mono (hA (w.heap.size + 1) _ _ _ _ _ hra B Fk mk _ S0) ?_
    rintro ex a1 B1 ⟨rfl, F1, m1, S1, E2⟩
    have hn6 := h2.not_own h6 rfl
    have hn7 := h2.not_own h7 rfl
    have l6 := (Array.getElem?_eq_some_iff.1 h6).1
    have l7 := (Array.getElem?_eq_some_iff.1 h7).1
    have k6 := (E2.same _ l6 hn6).trans h6
    have k7 := (E2.same _ l7 hn7).trans h7
    have f6 := E2.keep _ l6 h5 hn6
    have f7 := E2.keep _ l7 h4 hn7
    refine ⟨_, run_beginRound k6 (by rw [hrec]), ?_⟩
    have S2 : St 0 n (B1.putObj (w.heap.size + 1) (.loop { rec .ready none with state := .busy })) F1 m1 fra Ha a1 :=
      ⟨S1.inv.put f6 k6 rfl rfl, fun t => (S1.fr t).put f6 k6 rfl rfl, S1.size, by rw [World.putObj_size]; exact S1.defers.put k6, Nat.zero_le _⟩
    refine wpIn_mono (hB (w.heap.size + 1) _ _ _ _ _ hr _ F1 m1 _ S2) ?_
    rintro ex a2 B2 ⟨rfl, F2, m2, S3, E3⟩
    have E03 : Evo w F (Nx H) m H B2 F2 (Nx H1) m2 H1 := ((h3.trans E2).put (o' := .loop { rec .ready none with state := .busy }) (by omega : w.heap.size ≤ w.heap.size + 1)).trans E3
    have lB : w.heap.size + 1 < (B1.putObj (w.heap.size + 1) (.loop { rec .ready none with state := .busy })).heap.size := by
      rw [World.putObj_size]; exact (Array.getElem?_eq_some_iff.1 k6).1
    have p6 : (B1.putObj (w.heap.size + 1) (.loop { rec .ready none with state := .busy })).heap[w.heap.size + 1]? = some (.loop { rec .ready none with state := .busy }) := World.putObj_heap_same (Array.getElem?_eq_some_iff.1 k6).1
    have p7 : (B1.putObj (w.heap.size + 1) (.loop { rec .ready none with state := .busy })).heap[w.heap.size]? = some (.deferred (some [])) := (World.putObj_heap_other (by omega)).trans k7
    have n6 := S2.inv.not_own p6 rfl
    have n7 := S2.inv.not_own p7 rfl
    have r6 := (E3.same _ lB n6).trans p6
    have lB' : w.heap.size < (B1.putObj (w.heap.size + 1) (.loop { rec .ready none with state := .busy })).heap.size := Nat.lt_of_succ_lt lB
    have r7 := (E3.same _ lB' n7).trans p7
    have g6 := E3.keep _ lB f6 n6
    have g7 := E3.keep _ lB' f7 n7
    have fin : ∀ jump : Option Code, (Instr.endRound (w.heap.size + 1) jump).run P B2 = .ok (.bool jump.isNone) (B2.putObj (w.heap.size + 1) (.loop (rec (if jump.isNone then .ready else .done) jump))) ∧
        Inv (B2.putObj (w.heap.size + 1) (.loop (rec (if jump.isNone then .ready else .done) jump))) F2 (Nx H1) m2 H1 ∧
        Evo w F (Nx H) m H (B2.putObj (w.heap.size + 1) (.loop (rec (if jump.isNone then .ready else .done) jump))) F2 (Nx H1) m2 H1 ∧
        (B2.putObj (w.heap.size + 1) (.loop (rec (if jump.isNone then .ready else .done) jump))).heap[w.heap.size + 1]? = some (.loop (rec (if jump.isNone then .ready else .done) jump)) ∧
        (B2.putObj (w.heap.size + 1) (.loop (rec (if jump.isNone then .ready else .done) jump))).heap[w.heap.size]? = some (.deferred (some [])) := fun jump => by
      have := run_endRound (P := P) jump r6
      refine ⟨by rw [hrec] at this ⊢; exact this, S3.inv.put g6 r6 rfl rfl, E03.put (by omega), World.putObj_heap_same (Array.getElem?_eq_some_iff.1 r6).1, (World.putObj_heap_other (by omega)).trans r7⟩
    have G12 : ∀ jump : Option Code, ∀ a v, RV B Fk (Nx Hk) mk a v → RV (B2.putObj (w.heap.size + 1) (.loop (rec (if jump.isNone then .ready else .done) jump))) F2 (Nx H1) m2 a v := fun jump a v hv =>
      (E3.rv S2.inv ((E2.rv h2 hv).put f6 k6 rfl rfl)).put g6 r6 rfl rfl
    cases e1 with
    | normal =>
      obtain ⟨u1, u2, u3, u4, u5⟩ := fin none
      refine ⟨_, _, u1, F2, m2, H1, u2, G12 none, .inl ⟨rfl, ⟨u3, g7, g6, u4, u5⟩, ?_, ?_⟩⟩
      · intro hm
        rcases hcase with ⟨_, _, hc⟩ | ⟨_, hm2, _⟩ | ⟨hc, _⟩
        · exact hc
        · rw [hm] at hm2; cases hm2
        · exact (hc rfl).elim
      · intro hm
        rcases hcase with ⟨_, hm2, _⟩ | ⟨_, _, hc⟩ | ⟨hc, _⟩
        · rw [hm] at hm2; cases hm2
        · exact hc
        · exact (hc rfl).elim
    | ret =>
      obtain ⟨u1, u2, u3, u4, u5⟩ := fin (some .ret)
      rcases hcase with ⟨hc, _⟩ | ⟨hc, _⟩ | ⟨_, rfl, rfl⟩
      · cases hc
      · cases hc
      · exact ⟨_, _, u1, F2, m2, _, u2, G12 (some .ret), .inr ⟨rfl, ⟨u3, g7, g6, u4, u5⟩, by simp, rfl⟩⟩
    | exit id =>
      obtain ⟨u1, u2, u3, u4, u5⟩ := fin (some (.exit id))
      rcases hcase with ⟨hc, _⟩ | ⟨hc, _⟩ | ⟨_, rfl, rfl⟩
      · cases hc
      · cases hc
      · exact ⟨_, _, u1, F2, m2, _, u2, G12 (some (.exit id)), .inr ⟨rfl, ⟨u3, g7, g6, u4, u5⟩, by simp, rfl⟩⟩
  ·
    have out : ∀ (B : World) (st : LoopState) (pe : Option Code) (Fk : Nat → Prop) (mk : Nat → Nat), st ≠ .busy → Inv B Fk (Nx H0') mk H0' → Evo w F (Nx H) m H B Fk (Nx H0') mk H0' → Fk w.heap.size → Fk (w.heap.size + 1) →
        B.heap[w.heap.size + 1]? = some (.loop (rec st pe)) → B.heap[w.heap.size]? = some (.deferred (some [])) →
        (Instr.endLoop (w.heap.size + 1)).run P B = .ok pe (B.putObj (w.heap.size + 1) (.loop (rec .exhausted pe))) ∧
        ∃ F' m', St lo n (B.putObj (w.heap.size + 1) (.loop (rec .exhausted pe))) F' m' fr H0' { a with defers := { target := .collected w.heap.size, args := #[] } :: a.defers } ∧
          Evo w F (Nx H) m H (B.putObj (w.heap.size + 1) (.loop (rec .exhausted pe))) F' (Nx H0') m' H0' := by
      rintro B st pe Fk mk hst h2 h3 h4 h5 h6 h7
      have hend := run_endLoop (P := P) h6 (by rw [hrec]; exact hst)
      have E4 := h3.put (o' := .loop (rec .exhausted pe)) (by omega : w.heap.size ≤ w.heap.size + 1)
      refine ⟨by rw [hrec] at hend ⊢; exact hend, Fk, mk, ⟨h2.put h5 h6 rfl rfl, S.fr.evo S.inv E4, S.size, ?_, Nat.le_trans S.lo E4.size⟩, E4⟩
      refine ⟨w.heap.size, rfl, S.lo, ?_, h4, (World.putObj_heap_other (by omega)).trans h7, S.defers.evo S.inv E4 (Nat.le_refl _)⟩
      rw [World.putObj_size]; have := (Array.getElem?_eq_some_iff.1 h7).1; omega
    rintro e0' B ⟨⟨v, rfl⟩, Fk, mk, H', h2, ⟨⟨h3, h4, h5, h6, h7⟩, rfl, rfl⟩ | ⟨⟨h3, h4, h5, h6, h7⟩, h0, rfl⟩⟩
    · obtain ⟨u1, u2⟩ := out B .ready none Fk mk (by simp) h2 h3 h4 h5 h6 h7
      exact ⟨none, _, u1, rfl, u2⟩
    · obtain ⟨u1, u2⟩ := out B .done (some e0.toCode) Fk mk (by simp) h2 h3 h4 h5 h6 h7
      refine ⟨some e0.toCode, _, u1, ?_⟩
      cases e0 with
      | normal => exact (h0 rfl).elim
      | ret => exact wpIn_ret ⟨rfl, u2⟩
      | exit id => exact wpIn_exit ⟨rfl, u2⟩
theorem arange_sound (hC : Tab.Sound P C) {lo n : Nat} {g : Operand} {ps : Array Tmp} {assign body : Code} {ra rb : AFr → AHeap → ARes} (hps : ∀ p, p ∈ ps.toList → p < n)
    (hA : ∀ (l : Nat) (fr : AFr) (H : AHeap) (e : AEx) (fr' : AFr) (H' : AHeap), ra fr H = some (e, fr', H') → ∀ (w : World) (F : Nat → Prop) (m : Nat → Nat) (a : Act), St 0 n w F m fr H a →
      assign.wpIn (FW (some l)) 0 P (fun x a' w' => x = e.toExit ∧ ∃ F' m', St 0 n w' F' m' fr' H' a' ∧ Evo w F (Nx H) m H w' F' (Nx H') m' H') a w)
    (hB : ∀ (l : Nat) (fr : AFr) (H : AHeap) (e : AEx) (fr' : AFr) (H' : AHeap), rb fr H = some (e, fr', H') → ∀ (w : World) (F : Nat → Prop) (m : Nat → Nat) (a : Act), St 0 n w F m fr H a →
      body.wpIn (FW (some l)) 0 P (fun x a' w' => x = e.toExit ∧ ∃ F' m', St 0 n w' F' m' fr' H' a' ∧ Evo w F (Nx H) m H w' F' (Nx H') m' H') a w)
    {fr : AFr} {H : AHeap} {e : AEx} {fr' : AFr} {H' : AHeap} (h : arange C (fr.eval g) ps.toList (fun fr H => athen (ra fr H) rb) fr H = some (e, fr', H'))
    {w : World} {F : Nat → Prop} {m : Nat → Nat} {a : Act} (S : St lo n w F m fr H a) :
    (Code.rangeFunc g ps assign body).wpIn (FW none) 0 P (fun x a' w' => x = e.toExit ∧ ∃ F' m', St lo n w' F' m' fr' H' a' ∧ Evo w F (Nx H) m H w' F' (Nx H') m' H') a w := by
  unfold arange at h
  split at h <;> try (cases h; done)
  rename_i f caps hg
  split at h <;> try (cases h; done)
  rotate_left
  · rename_i start next hCf
    exact agen_sound hC hps hA hB hg hCf h S
  rename_i spec hCf
  split at h <;> try (cases h; done)
  rename_i xs hxs
  split at h <;> try (cases h; done)
  rename_i hall
  obtain ⟨hcl, hands⟩ := hC f _ hCf
  have hv := S.fr.eval g
  rw [hg] at hv
  generalize hu : a.eval g = u at hv
  cases hv with
  | clo _ _ _ vs us hl hl' q1 q2 =>
  have hvs : vs = #[] := by
    have : vs.size = 0 := by simpa using hl.symm
    exact Array.eq_empty_of_size_eq_zero this
  subst hvs
  have hcaps : RLs w F (Nx H) m caps us := ⟨by simpa using hl', fun i x v p1 p2 => q2 i x v p1 (by simpa using p2)⟩
  refine wpIn_rangeFunc ?_
  intro fn _
  obtain ⟨rec, hrec⟩ : ∃ rec : LoopState → Option Code → Loop, rec = fun st pe => { state := st, pending := pe, fn, tmps := a.tmps, params := ps, assign, body, defers := w.heap.size } := ⟨_, rfl⟩
  obtain ⟨W1, hW1⟩ : ∃ W1, (w.alloc (.deferred (some []))).alloc (.loop (rec .ready none)) = W1 := ⟨_, rfl⟩
  have hL1 : W1.heap[w.heap.size + 1]? = some (.loop (rec .ready none)) := by
    rw [← hW1]; have := World.alloc_heap_new (w.alloc (.deferred (some []))) (.loop (rec .ready none)); rwa [World.size_alloc] at this
  have hK1 : W1.heap[w.heap.size]? = some (.deferred (some [])) := by
    rw [← hW1]; exact (RowKit.Below.heap_alloc _ _ _ (by simp)).trans (World.alloc_heap_new w _)
  have E1 : Evo w F (Nx H) m H W1 (fun cb => F cb ∨ cb = w.heap.size ∨ cb = w.heap.size + 1) (Nx H) m H := by rw [← hW1]; exact evo_laid _ _
  have I1 : Inv W1 (fun cb => F cb ∨ cb = w.heap.size ∨ cb = w.heap.size + 1) (Nx H) m H := by rw [← hW1]; exact inv_laid S.inv _ _
  refine ⟨w.heap.size + 1, [{ target := .collected w.heap.size, args := #[] }], W1, { target := .fn (.func f) us, args := #[.func (.yield (w.heap.size + 1)) #[] #[]] }, W1, f,
    #[.func (.yield (w.heap.size + 1)) #[] #[]] ++ us, W1, ?_, ?_, fun _ _ => trivial, ?_, fun q => by simp [FW, Fence.wide] at q, ?_⟩
  · rw [← hW1, hrec]; exact run_enterLoop_outer _ _ _ _ _
  · simp only [resolve, hu]
    simp [go_sem]
  · simp only [invoke]; exact hcl _ _
  generalize hround : (fun x H => (fun fr H => athen (ra fr H) rb) (fr.puts ps.toList x) H : List AV → AHeap → ARes) = round at h
  refine (hands caps xs us (w.heap.size + 1)
    (fun k B => ∃ Fk mk Hk, aeach spec caps xs round fr (xs.drop k) Hk = some (e, fr', H') ∧ Inv B Fk (Nx Hk) mk Hk ∧ Evo w F (Nx H) m H B Fk (Nx Hk) mk Hk ∧ Fk w.heap.size ∧ Fk (w.heap.size + 1) ∧
      B.heap[w.heap.size + 1]? = some (.loop (rec .ready none)) ∧ B.heap[w.heap.size]? = some (.deferred (some [])))
    (fun B => e ≠ .normal ∧ fr' = fr ∧ ∃ Fk mk, Inv B Fk (Nx H') mk H' ∧ Evo w F (Nx H) m H B Fk (Nx H') mk H' ∧ Fk w.heap.size ∧ Fk (w.heap.size + 1) ∧
      B.heap[w.heap.size + 1]? = some (.loop (rec .done (some e.toCode))) ∧ B.heap[w.heap.size]? = some (.deferred (some [])))
    W1 ?_ ?_ ?_ ?_ ?_).mono ?_
  ·
    rintro k B ⟨Fk, mk, Hk, h1, h2, h3, _⟩
    refine ⟨Fk, mk, Hk, h2, ⟨hcaps.1, fun i x v p1 p2 => h3.rv S.inv (hcaps.2 i x v p1 p2)⟩, ?_⟩
    cases hd : xs.drop k with
    | nil =>
      rw [hd] at h1
      unfold aeach at h1
      split at h1 <;> first | assumption | (cases h1; done)
    | cons x l =>
      rw [hd] at h1
      unfold aeach at h1
      split at h1 <;> first | assumption | (cases h1; done)
  ·
    rintro k B B' ⟨Fk, mk, Hk, h1, h2, h3, h4, h5, h6, h7⟩ hgr
    have hb := below_of_grown hgr
    exact ⟨Fk, mk, Hk, h1, inv_below h2 hb, h3.trans (evo_below hb), h4, h5, (hb.block _ (Array.getElem?_eq_some_iff.1 h6).1).trans h6, (hb.block _ (Array.getElem?_eq_some_iff.1 h7).1).trans h7⟩
  · rintro B B' ⟨h0, h1, Fk, mk, h2, h3, h4, h5, h6, h7⟩ hgr
    have hb := below_of_grown hgr
    exact ⟨h0, h1, Fk, mk, inv_below h2 hb, h3.trans (evo_below hb), h4, h5, (hb.block _ (Array.getElem?_eq_some_iff.1 h6).1).trans h6, (hb.block _ (Array.getElem?_eq_some_iff.1 h7).1).trans h7⟩
  ·
    rintro k x B hx ⟨Fk, mk, Hk, h1, h2, h3, h4, h5, h6, h7⟩
    have hxm : x ∈ xs := List.mem_of_getElem? hx
    have hxa := List.all_eq_true.1 hall x hxm
    simp only [Bool.and_eq_true, beq_iff_eq] at hxa
    obtain ⟨hxl, hxa⟩ := hxa
    have hlt : k < xs.length := (List.getElem?_eq_some_iff.1 hx).1
    have hdr : xs.drop k = x :: xs.drop (k + 1) := by
      rw [List.drop_eq_getElem_cons hlt]
      rw [List.getElem?_eq_getElem hlt] at hx
      simp only [Option.some.injEq] at hx
      rw [hx]
    rw [hdr] at h1
    unfold aeach at h1
    split at h1 <;> try (cases h1; done)
    have hy := run_yield (P := P) (args := (x.map AV.toVal).toArray) h6 (by rw [hrec]; simpa using hxl)
    rw [hrec] at hy
    refine ⟨fn, _, assign, body, hy, roundIn_of_wpIn trivial ?_⟩
    have hsz : (ps.zip (x.map AV.toVal).toArray).foldl (fun t (p, v) => t.setIfInBounds p v) a.tmps = (ps.toList.zip (x.map AV.toVal)).foldl (fun t (p, v) => t.setIfInBounds p v) a.tmps := by
      rw [← Array.foldl_toList]; simp
    have S0 : St 0 n B Fk mk (fr.puts ps.toList x) Hk { tmps := (ps.zip (x.map AV.toVal).toArray).foldl (fun t (p, v) => t.setIfInBounds p v) a.tmps, defers := [] } := by
      rw [hsz]
      exact ⟨h2, rf_puts _ _ _ _ (S.fr.evo S.inv h3) hxa (fun p hp => by rw [S.size]; exact hps p hp) hxl.symm, by rw [size_puts]; exact S.size, trivial, Nat.zero_le _⟩
    have h1' : ∃ e1 fr1 H1, round x Hk = some (e1, fr1, H1) ∧ ((e1 = .normal ∧ aeach spec caps xs round fr (xs.drop (k + 1)) H1 = some (e, fr', H')) ∨ (e1 ≠ .normal ∧ e = e1 ∧ fr' = fr ∧ H' = H1)) := by
      split at h1
      · rename_i fr1 H1 hr; exact ⟨.normal, fr1, H1, hr, .inl ⟨rfl, h1⟩⟩
      · rename_i e1 fr1 H1 hne hr
        simp only [Option.some.injEq, Prod.mk.injEq] at h1
        obtain ⟨rfl, rfl, rfl⟩ := h1
        exact ⟨e1, fr1, H1, hr, .inr ⟨fun q => hne q, rfl, rfl, rfl⟩⟩
      · cases h1
    clear h1
    obtain ⟨e1, fr1, H1, hr, hcase⟩ := h1'
    rw [← hround] at hr
    dsimp only at hr
    unfold athen at hr
    split at hr <;> try (cases hr; done)
    rename_i fra Ha hra
    refine wpIn_mono (hA (w.heap.size + 1) _ _ _ _ _ hra B Fk mk _ S0) ?_
    rintro ex a1 B1 ⟨rfl, F1, m1, S1, E2⟩
    have hn6 := h2.not_own h6 rfl
    have hn7 := h2.not_own h7 rfl
    have l6 := (Array.getElem?_eq_some_iff.1 h6).1
    have l7 := (Array.getElem?_eq_some_iff.1 h7).1
    have k6 := (E2.same _ l6 hn6).trans h6
    have k7 := (E2.same _ l7 hn7).trans h7
    have f6 := E2.keep _ l6 h5 hn6
    have f7 := E2.keep _ l7 h4 hn7
    refine ⟨_, run_beginRound k6 (by rw [hrec]), ?_⟩
    have S2 : St 0 n (B1.putObj (w.heap.size + 1) (.loop { rec .ready none with state := .busy })) F1 m1 fra Ha a1 :=
      ⟨S1.inv.put f6 k6 rfl rfl, fun t => (S1.fr t).put f6 k6 rfl rfl, S1.size, by rw [World.putObj_size]; exact S1.defers.put k6, Nat.zero_le _⟩
    refine wpIn_mono (hB (w.heap.size + 1) _ _ _ _ _ hr _ F1 m1 _ S2) ?_
    rintro ex a2 B2 ⟨rfl, F2, m2, S3, E3⟩
    have E03 : Evo w F (Nx H) m H B2 F2 (Nx H1) m2 H1 := ((h3.trans E2).put (o' := .loop { rec .ready none with state := .busy }) (by omega : w.heap.size ≤ w.heap.size + 1)).trans E3
    have lB : w.heap.size + 1 < (B1.putObj (w.heap.size + 1) (.loop { rec .ready none with state := .busy })).heap.size := by
      rw [World.putObj_size]; exact (Array.getElem?_eq_some_iff.1 k6).1
    have p6 : (B1.putObj (w.heap.size + 1) (.loop { rec .ready none with state := .busy })).heap[w.heap.size + 1]? = some (.loop { rec .ready none with state := .busy }) := World.putObj_heap_same (Array.getElem?_eq_some_iff.1 k6).1
    have p7 : (B1.putObj (w.heap.size + 1) (.loop { rec .ready none with state := .busy })).heap[w.heap.size]? = some (.deferred (some [])) := (World.putObj_heap_other (by omega)).trans k7
    have n6 := S2.inv.not_own p6 rfl
    have n7 := S2.inv.not_own p7 rfl
    have r6 := (E3.same _ lB n6).trans p6
    have lB' : w.heap.size < (B1.putObj (w.heap.size + 1) (.loop { rec .ready none with state := .busy })).heap.size := Nat.lt_of_succ_lt lB
    have r7 := (E3.same _ lB' n7).trans p7
    have g6 := E3.keep _ lB f6 n6
    have g7 := E3.keep _ lB' f7 n7
    have fin : ∀ jump : Option Code, (Instr.endRound (w.heap.size + 1) jump).run P B2 = .ok (.bool jump.isNone) (B2.putObj (w.heap.size + 1) (.loop (rec (if jump.isNone then .ready else .done) jump))) ∧
        Inv (B2.putObj (w.heap.size + 1) (.loop (rec (if jump.isNone then .ready else .done) jump))) F2 (Nx H1) m2 H1 ∧
        Evo w F (Nx H) m H (B2.putObj (w.heap.size + 1) (.loop (rec (if jump.isNone then .ready else .done) jump))) F2 (Nx H1) m2 H1 ∧
        (B2.putObj (w.heap.size + 1) (.loop (rec (if jump.isNone then .ready else .done) jump))).heap[w.heap.size + 1]? = some (.loop (rec (if jump.isNone then .ready else .done) jump)) ∧
        (B2.putObj (w.heap.size + 1) (.loop (rec (if jump.isNone then .ready else .done) jump))).heap[w.heap.size]? = some (.deferred (some [])) := fun jump => by
      have := run_endRound (P := P) jump r6
      refine ⟨by rw [hrec] at this ⊢; exact this, S3.inv.put g6 r6 rfl rfl, E03.put (by omega), World.putObj_heap_same (Array.getElem?_eq_some_iff.1 r6).1, (World.putObj_heap_other (by omega)).trans r7⟩
    cases e1 with
    | normal =>
      obtain ⟨u1, u2, u3, u4, u5⟩ := fin none
      rcases hcase with ⟨_, hc⟩ | ⟨hc, _⟩
      · exact ⟨_, _, u1, .inl ⟨rfl, F2, m2, H1, hc, u2, u3, g7, g6, u4, u5⟩⟩
      · exact (hc rfl).elim
    | ret =>
      obtain ⟨u1, u2, u3, u4, u5⟩ := fin (some .ret)
      rcases hcase with ⟨hc, _⟩ | ⟨_, rfl, rfl, rfl⟩
      · cases hc
      · exact ⟨_, _, u1, .inr ⟨rfl, by simp, rfl, F2, m2, u2, u3, g7, g6, u4, u5⟩⟩
    | exit id =>
      obtain ⟨u1, u2, u3, u4, u5⟩ := fin (some (.exit id))
      rcases hcase with ⟨hc, _⟩ | ⟨_, rfl, rfl, rfl⟩
      · cases hc
      · exact ⟨_, _, u1, .inr ⟨rfl, by simp, rfl, F2, m2, u2, u3, g7, g6, u4, u5⟩⟩
  · exact ⟨_, m, H, h, I1, E1, .inr (.inl rfl), .inr (.inr rfl), hL1, hK1⟩
  ·
    have out : ∀ (B : World) (st : LoopState) (pe : Option Code) (Fk : Nat → Prop) (mk : Nat → Nat), st ≠ .busy → fr' = fr → Inv B Fk (Nx H') mk H' → Evo w F (Nx H) m H B Fk (Nx H') mk H' → Fk w.heap.size → Fk (w.heap.size + 1) →
        B.heap[w.heap.size + 1]? = some (.loop (rec st pe)) → B.heap[w.heap.size]? = some (.deferred (some [])) →
        (Instr.endLoop (w.heap.size + 1)).run P B = .ok pe (B.putObj (w.heap.size + 1) (.loop (rec .exhausted pe))) ∧
        ∃ F' m', St lo n (B.putObj (w.heap.size + 1) (.loop (rec .exhausted pe))) F' m' fr' H' { a with defers := { target := .collected w.heap.size, args := #[] } :: a.defers } ∧
          Evo w F (Nx H) m H (B.putObj (w.heap.size + 1) (.loop (rec .exhausted pe))) F' (Nx H') m' H' := by
      rintro B st pe Fk mk hst rfl h2 h3 h4 h5 h6 h7
      have hend := run_endLoop (P := P) h6 (by rw [hrec]; exact hst)
      have E4 := h3.put (o' := .loop (rec .exhausted pe)) (by omega : w.heap.size ≤ w.heap.size + 1)
      refine ⟨by rw [hrec] at hend ⊢; exact hend, Fk, mk, ⟨h2.put h5 h6 rfl rfl, S.fr.evo S.inv E4, S.size, ?_, Nat.le_trans S.lo E4.size⟩, E4⟩
      refine ⟨w.heap.size, rfl, S.lo, ?_, h4, (World.putObj_heap_other (by omega)).trans h7, S.defers.evo S.inv E4 (Nat.le_refl _)⟩
      rw [World.putObj_size]; have := (Array.getElem?_eq_some_iff.1 h7).1; omega
    rintro e0 B ⟨⟨v, rfl⟩, ⟨Fk, mk, Hk, h1, h2, h3, h4, h5, h6, h7⟩ | ⟨h0, rfl, Fk, mk, h2, h3, h4, h5, h6, h7⟩⟩
    · rw [List.drop_length] at h1
      unfold aeach at h1
      split at h1 <;> try (cases h1; done)
      simp only [Option.some.injEq, Prod.mk.injEq] at h1
      obtain ⟨rfl, rfl, rfl⟩ := h1
      obtain ⟨u1, u2⟩ := out B .ready none Fk mk (by simp) rfl h2 h3 h4 h5 h6 h7
      exact ⟨none, _, u1, rfl, u2⟩
    · obtain ⟨u1, u2⟩ := out B .done (some e.toCode) Fk mk (by simp) rfl h2 h3 h4 h5 h6 h7
      refine ⟨some e.toCode, _, u1, ?_⟩
      cases e with
      | normal => exact (h0 rfl).elim
      | ret => exact wpIn_ret ⟨rfl, u2⟩
      | exit id => exact wpIn_exit ⟨rfl, u2⟩
theorem acode_sound (hC : Tab.Sound P C) (hm : P.follows .mixedOrders = true) (D : Draws P C) (K : Nat → List Nat) {lo n : Nat} : ∀ (c : Code), codeOk n c = true → ∀ (ro : Option Nat), ro = none ∨ flatC c = true → ∀ (fr : AFr) (H : AHeap) (e : AEx) (fr' : AFr) (H' : AHeap), acode P C D K c fr H = some (e, fr', H') →
    ∀ (w : World) (F : Nat → Prop) (m : Nat → Nat) (a : Act), St lo n w F m fr H a → c.wpIn (FW ro) 0 P (fun x a' w' => x = e.toExit ∧ ∃ F' m', St lo n w' F' m' fr' H' a' ∧ Evo w F (Nx H) m H w' F' (Nx H') m' H') a w
  | .skip, _, ro, _, fr, H, e, fr', H', h, w, F, m, a, S => by
    simp only [acode, Option.some.injEq, Prod.mk.injEq] at h
    obtain ⟨rfl, rfl, rfl⟩ := h
    exact wpIn_skip ⟨rfl, F, m, S, Evo.refl⟩
  | .exit id, _, ro, _, fr, H, e, fr', H', h, w, F, m, a, S => by
    simp only [acode, Option.some.injEq, Prod.mk.injEq] at h
    obtain ⟨rfl, rfl, rfl⟩ := h
    exact wpIn_exit ⟨rfl, F, m, S, Evo.refl⟩
  | .ret, _, ro, _, fr, H, e, fr', H', h, w, F, m, a, S => by
    simp only [acode, Option.some.injEq, Prod.mk.injEq] at h
    obtain ⟨rfl, rfl, rfl⟩ := h
    exact wpIn_ret ⟨rfl, F, m, S, Evo.refl⟩
  | .region id ops draw, hok, ro, hro, fr, H, e, fr', H', h, w, F, m, a, S => by
    simp only [acode] at h
    simp only [codeOk, Bool.and_eq_true] at hok
    obtain ⟨hok, hnd⟩ := hok
    have hQ : ∀ (fr1 : AFr) (H1 : AHeap), ¬ LetsOut (fun x (a' : Act) w' => x = AEx.normal.toExit ∧ ∃ F' m', St lo n w' F' m' fr1 H1 a' ∧ Evo w F (Nx H) m H w' F' (Nx H1) m' H1) := fun fr1 H1 ⟨_, _, q, _⟩ => by cases q
    cases draw
    · simp only [Bool.false_eq_true, if_false] at h
      unfold areg at h
      split at h <;> try (cases h; done)
      rename_i fr1 H1 h1
      simp only [Option.some.injEq, Prod.mk.injEq] at h
      obtain ⟨rfl, rfl, rfl⟩ := h
      refine wpIn_region (wpOpsIn_of hnd (hQ fr1 H1) _ _ _ ?_)
      have := aops_sound hC hok (Q := fun x a' w' => x = AEx.normal.toExit ∧ ∃ F' m', St lo n w' F' m' fr1 H1 a' ∧ Evo w F (Nx H) m H w' F' (Nx H1) m' H1) ops.toList 0 fr H w F m a (by simp) h1 S
        (fun a' w' F' m' S' E' => ⟨rfl, F', m', S', E'⟩)
      rw [List.range_eq_range']
      simpa using this
    · simp only [if_true] at h
      unfold areg at h
      split at h <;> try (cases h; done)
      rename_i fr1 H1 h1
      simp only [Option.some.injEq, Prod.mk.injEq] at h
      obtain ⟨rfl, rfl, rfl⟩ := h
      refine wpIn_region_anyFW hnd (hQ fr1 H1) hm ?_
      refine D.sound hC ops (K id) fr H fr1 H1 h1 _ F m a n a.defers hok (Inv.drew S.inv) (fun t => (S.fr t).drew) S.size rfl hm _ ?_
      intro a' w' F' m' I' hf' hs' hd' E'
      have E2 : Evo w F (Nx H) m H w' F' (Nx H1) m' H1 := Evo.trans Evo.drew E'
      exact ⟨rfl, F', m', St.mk I' hf' hs' (by rw [hd']; exact (S.defers.evo S.inv E2 (Nat.le_refl _)).mono E2.size) (Nat.le_trans S.lo E2.size), E2⟩
  | .seq x y, hok, ro, hro, fr, H, e, fr', H', h, w, F, m, a, S => by
    simp only [codeOk, Bool.and_eq_true] at hok
    simp only [acode] at h
    cases hx : acode P C D K x fr H with
    | none => rw [hx] at h; simp [aseq] at h
    | some r =>
      obtain ⟨e1, fr1, H1⟩ := r
      rw [hx] at h
      have ihx := acode_sound hC hm D K x hok.1 ro (hro.imp _root_.id fun q => by simp only [flatC, Bool.and_eq_true] at q; exact q.1) fr H e1 fr1 H1 hx w F m a S
      refine wpIn_seq (wpIn_mono ihx ?_)
      rintro ex a1 w1 ⟨rfl, F1, m1, S1, E1⟩
      cases e1
      case normal =>
        simp only [aseq] at h
        refine wpIn_mono (acode_sound hC hm D K y hok.2 ro (hro.imp _root_.id fun q => by simp only [flatC, Bool.and_eq_true] at q; exact q.2) fr1 H1 e fr' H' h w1 F1 m1 a1 S1) ?_
        rintro ex a2 w2 ⟨rfl, F2, m2, S2, E2⟩
        exact ⟨rfl, F2, m2, S2, E1.trans E2⟩
      all_goals
        simp only [aseq, Option.some.injEq, Prod.mk.injEq] at h
        obtain ⟨rfl, rfl, rfl⟩ := h
        exact ⟨rfl, F1, m1, S1, E1⟩
  | .cond c x y, hok, ro, hro, fr, H, e, fr', H', h, w, F, m, a, S => by
    simp only [codeOk, Bool.and_eq_true] at hok
    simp only [acode, acond] at h
    split at h <;> try (cases h; done)
    rename_i t ht
    have hv := S.fr.eval c
    rw [ht] at hv
    generalize hq : a.eval c = u at hv
    cases hv
    refine wpIn_cond hq ?_
    cases t
    · exact acode_sound hC hm D K y hok.2 ro (hro.imp _root_.id fun q => by simp only [flatC, Bool.and_eq_true] at q; exact q.2) fr H e fr' H' h w F m a S
    · exact acode_sound hC hm D K x hok.1 ro (hro.imp _root_.id fun q => by simp only [flatC, Bool.and_eq_true] at q; exact q.1) fr H e fr' H' h w F m a S
  | .block id b, hok, ro, hro, fr, H, e, fr', H', h, w, F, m, a, S => by
    simp only [codeOk] at hok
    simp only [acode] at h
    cases hb : acode P C D K b fr H with
    | none => rw [hb] at h; simp [aexit] at h
    | some r =>
      obtain ⟨e1, fr1, H1⟩ := r
      rw [hb] at h
      refine wpIn_block (wpIn_mono (acode_sound hC hm D K b hok ro (hro.imp _root_.id fun q => by simpa only [flatC] using q) fr H e1 fr1 H1 hb w F m a S) ?_)
      rintro ex a1 w1 ⟨rfl, F1, m1, S1, E1⟩
      cases e1
      case exit k =>
        simp only [aexit] at h
        simp only [AEx.toExit, Exit.inBlock]
        split at h
        · rename_i hk
          simp only [Option.some.injEq, Prod.mk.injEq] at h
          obtain ⟨rfl, rfl, rfl⟩ := h
          rw [if_pos hk]
          exact ⟨rfl, F1, m1, S1, E1⟩
        · rename_i hk
          simp only [Option.some.injEq, Prod.mk.injEq] at h
          obtain ⟨rfl, rfl, rfl⟩ := h
          rw [if_neg hk]
          exact ⟨rfl, F1, m1, S1, E1⟩
      all_goals
        simp only [aexit, Option.some.injEq, Prod.mk.injEq] at h
        obtain ⟨rfl, rfl, rfl⟩ := h
        exact ⟨rfl, F1, m1, S1, E1⟩
  | .loop b, hok, ro, hro, fr, H, e, fr', H', h, w, F, m, a, S => by
    simp only [codeOk] at hok
    simp only [acode] at h
    obtain ⟨q, hq⟩ := iter_of_aloop h
    refine wpIn_loop_rounds q ?_
    clear h
    induction q generalizing fr H w F m a with
    | zero => simp [aiter] at hq
    | succ q ih =>
      rw [roundsIn_succ]
      simp only [aiter] at hq
      cases hb : acode P C D K b fr H with
      | none => rw [hb] at hq; simp at hq
      | some r =>
        obtain ⟨e1, fr1, H1⟩ := r
        rw [hb] at hq
        refine wpIn_mono (acode_sound hC hm D K b hok ro (hro.imp _root_.id fun q => by simpa only [flatC] using q) fr H e1 fr1 H1 hb w F m a S) ?_
        rintro ex a1 w1 ⟨rfl, F1, m1, S1, E1⟩
        cases e1
        case normal =>
          have := ih fr1 H1 w1 F1 m1 a1 S1 hq
          refine roundsIn_mono this ?_
          rintro ex a2 w2 ⟨h1, F2, m2, S2, E2⟩
          exact ⟨h1, F2, m2, S2, E1.trans E2⟩
        all_goals
          simp only [Option.some.injEq, Prod.mk.injEq] at hq
          obtain ⟨rfl, rfl, rfl⟩ := hq
          exact ⟨rfl, F1, m1, S1, E1⟩
  | .rangeFunc g ps x y, hok, ro, hro, fr, H, e, fr', H', h, w, F, m, a, S => by
    have hr : ro = none := by
      rcases hro with hro | hro
      · exact hro
      · simp [flatC] at hro
    subst hr
    simp only [codeOk, Bool.and_eq_true] at hok
    simp only [acode] at h
    exact arange_sound hC (fun p hp => by simpa using List.all_eq_true.1 hok.2 p hp)
      (fun l fr H e fr' H' h w F m a S => acode_sound (lo := 0) hC hm D K x hok.1.1.1.1 (some l) (.inr hok.1.1.2) fr H e fr' H' h w F m a S)
      (fun l fr H e fr' H' h w F m a S => acode_sound (lo := 0) hC hm D K y hok.1.1.1.2 (some l) (.inr hok.1.2) fr H e fr' H' h w F m a S) h S
  | .scope .., _, _, _, _, _, _, _, _, h, _, _, _, _, _ => by simp [acode] at h
  | .label .., _, _, _, _, _, _, _, _, h, _, _, _, _, _ => by simp [acode] at h
  | .goto .., _, _, _, _, _, _, _, _, h, _, _, _, _, _ => by simp [acode] at h
  | .refuse .., _, _, _, _, _, _, _, _, h, _, _, _, _, _ => by simp [acode] at h
where
  roundsIn_mono {ro : Option Nat} {c : Code} {Q Q' : Exit → Act → World → Prop} {n : Nat} {a : Act} {w : World} (h : Code.roundsIn (FW ro) 0 P c Q n a w) (hq : ∀ e a w, Q e a w → Q' e a w) : Code.roundsIn (FW ro) 0 P c Q' n a w := by
    induction n generalizing a w with
    | zero => exact h.elim
    | succ n ih =>
      rw [roundsIn_succ] at h ⊢
      refine wpIn_mono h fun e a w he => ?_
      cases e <;> first | exact ih he | exact hq _ _ _ he
end
end Go.Abs
end
section
set_option linter.unusedSimpArgs false
set_option linter.unusedVariables false
namespace Go.Abs
def args0L : Nat → List AV → List (Nat × AV)
  | _, [] => []
  | k, a :: as => (k, a) :: args0L (k + 1) as
def args0 (args : List AV) : AFr := AFr.al (args0L 0 args)
theorem args0L_get : ∀ (args : List AV) (k t : Nat), AFr.al (args0L k args) t = if t < k then .undef else (args[t - k]?).getD .undef
  | [], k, t => by simp [args0L, AFr.al]
  | a :: as, k, t => by
    simp only [args0L, AFr.al]
    by_cases h : t = k
    · subst h; simp
    · rw [if_neg h, args0L_get as (k + 1) t]
      by_cases h2 : t < k
      · rw [if_pos (by omega), if_pos h2]
      · rw [if_neg (by omega), if_neg h2]
        obtain ⟨d, rfl⟩ : ∃ d, t = k + 1 + d := ⟨t - (k + 1), by omega⟩
        rw [show k + 1 + d - (k + 1) = d from by omega, show k + 1 + d - k = d + 1 from by omega, List.getElem?_cons_succ]
theorem args0_get (args : List AV) (t : Nat) : args0 args t = (args[t]?).getD .undef := by
  rw [args0, args0L_get]; simp
def res2 (v : Option AV) (l : Option (List AV)) : Option (List AV) :=
  match v, l with
  | some v, some l => some (v :: l)
  | _, _ => none
def aresults (P : Program) (fr : AFr) (H : AHeap) : List ResultVar → Option (List AV)
  | [] => some []
  | .tmp t :: rs => res2 (some (fr t)) (aresults P fr H rs)
  | .cell a t :: rs => res2 (aload P t (fr a) H) (aresults P fr H rs)
def mkVal : List Value → Value
  | [v] => v
  | vs => .tuple vs.toArray
def resVar (tmps : Array Value) : ResultVar → Sem Value
  | .tmp t => pure (tmps.getD t undef)
  | .cell a t => do loadVar t (← asAddr (tmps.getD a undef))
def mkRes : List AV → AV
  | [v] => v
  | vs => .tup vs
def afinR (g : AFr → AHeap → Option (List AV)) (r : ARes) : Option (List AV × AHeap) :=
  match r with
  | some (.normal, fr, H') | some (.ret, fr, H') => match g fr H' with | some l => some (l, H') | none => none
  | _ => none
def afin (P : Program) (rs : List ResultVar) (r : ARes) : Option (List AV × AHeap) := afinR (fun fr H => aresults P fr H rs) r
noncomputable def arun (P : Program) (C : Tab) (D : Draws P C) (K : Nat → List Nat) (fn : Func) (c : Code) (args : List AV) (H : AHeap) : Option (List AV × AHeap) :=
  if args.length ≤ fn.ntmps then afin P fn.results.toList (acode P C D K c (args0 args) H) else none
def closeUpR (l : Option (List (List (Option Nat)))) (x : Option (List AV × AHeap)) : Option AV :=
  match x, l with
  | some (rs, H'), some l => match frzArgs H' l rs with
    | some (rs', _) => some (mkRes rs')
    | none => none
  | _, _ => none
def closeUp (P : Program) (ts : List TypeId) (x : Option (List AV × AHeap)) : Option AV := closeUpR (tysOf P ts) x
noncomputable def pureOf (P : Program) (C : Tab) (D : Draws P C) (K : Nat → List Nat) (fn : Func) (c : Code) (args : List AV) : Option AV :=
  closeUp P fn.resultTypes.toList (arun P C D K fn c args AHeap.empty)
def idsBelow (n : Nat) : AV → Bool
  | .ptr b _ _ _ => decide (b < n)
  | .sl b _ _ _ => decide (b < n)
  | a => a.flat
def CanTrunc (H H' : AHeap) : Prop :=
  ∀ b, b < H.next → H'.get b = H.get b ∨ ∀ blk, H'.get b = some blk → ∀ row, row ∈ blk.rows → ∀ a, a ∈ row → idsBelow H.next a = true
def AHeap.trunc (H' : AHeap) (n : Nat) : AHeap := { next := n, get := fun b => if b < n then H'.get b else none }
open Classical in
noncomputable def forget (H : AHeap) (x : Option (List AV × AHeap)) : Option (AV × AHeap) :=
  match x with
  | some (rs, H') => if (mkRes rs).closed = true ∧ CanTrunc H H' ∧ H.next ≤ H'.next then some (mkRes rs, H'.trunc H.next) else none
  | none => none
def raw (x : Option (List AV × AHeap)) : Option (AV × AHeap) :=
  match x with
  | some (rs, H') => some (mkRes rs, H')
  | none => none
noncomputable def refOf (P : Program) (C : Tab) (D : Draws P C) (K : Nat → List Nat) (fn : Func) (c : Code) (args : List AV) (H : AHeap) : Option (AV × AHeap) := raw (arun P C D K fn c args H)
noncomputable def refT (P : Program) (C : Tab) (D : Draws P C) (K : Nat → List Nat) (fn : Func) (c : Code) (args : List AV) (H : AHeap) : Option (AV × AHeap) := forget H (arun P C D K fn c args H)
section
variable {P : Program} {w : World} {F A : Nat → Prop} {m : Nat → Nat} {H : AHeap} {C : Tab}
theorem args0_rf {args : List AV} {vs : Array Value} {n : Nat} (h : RLs w F A m args vs) : RF w F A m (args0 args) (vs ++ Array.replicate n undef) := by
  intro t
  rw [args0_get]
  cases hv : args[t]? with
  | some v =>
    simp only [Option.getD_some]
    have hlt : t < vs.size := by
      have := (List.getElem?_eq_some_iff.1 hv).1
      have h1 := h.1
      simp at h1
      omega
    have := h.2 t v vs[t] hv (by simp [hlt])
    have e : (vs ++ Array.replicate n undef).getD t undef = vs[t] := by
      rw [Array.getD_eq_getD_getElem?, Array.getElem?_append_left hlt]
      simp [hlt]
    rw [e]; exact this
  | none => exact .undef _
theorem load_addr {t : TypeId} {p z : AV} {v : Value} (h : aload P t p H = some z) (I : Inv w F A m H) (hp : RV w F A m p v) :
    ∃ r, (do loadVar t (← asAddr v) : Sem Value).run P w = .ok r w ∧ RV w F A m z r := by
  obtain ⟨r, h1, h2⟩ := aload_sound h I hp
  refine ⟨r, ?_, h2⟩
  unfold aload aloadR at h
  split at h <;> try (cases h; done)
  all_goals
    cases hp
    simpa [Instr.loadAt, Instr.sureAddr, asAddr] using h1
theorem run_results {fr : AFr} {tmps : Array Value} (I : Inv w F A m H) (hf : RF w F A m fr tmps) : ∀ (rs : List ResultVar) (l : List AV) (acc : Array Value), aresults P fr H rs = some l →
    ∃ vs : List Value, (rs.foldlM (fun (acc : Array Value) (x : ResultVar) => do pure (acc.push (← resVar tmps x))) acc : Sem (Array Value)).run P w = .ok (acc ++ vs.toArray) w ∧ RL w F A m l vs
  | [], l, acc, h => by
    simp only [aresults, Option.some.injEq] at h
    subst h
    exact ⟨[], by simp, rfl, by simp⟩
  | .tmp t :: rs, l, acc, h => by
    simp only [aresults, res2] at h
    split at h <;> try (cases h; done)
    rename_i z0 l' hz0 hl
    simp only [Option.some.injEq] at h hz0
    subst h hz0
    obtain ⟨vs, h1, h2⟩ := run_results I hf rs l' (acc.push (tmps.getD t undef)) hl
    refine ⟨tmps.getD t undef :: vs, ?_, by simp [h2.1], fun i a v q1 q2 => ?_⟩
    · have e0 : (resVar tmps (.tmp t)).run P w = .ok (tmps.getD t undef) w := rfl
      simp only [List.foldlM_cons, Sem.run_bind, e0, Sem.run_pure, Result.andThen_ok, h1]
      congr 1
      apply Array.toList_inj.1
      simp
    · cases i with
      | zero => simp only [List.getElem?_cons_zero, Option.some.injEq] at q1 q2; subst q1 q2; exact hf t
      | succ i => exact h2.2 i a v (by simpa using q1) (by simpa using q2)
  | .cell b t :: rs, l, acc, h => by
    simp only [aresults, res2] at h
    split at h <;> try (cases h; done)
    rename_i z l' hz hl
    simp only [Option.some.injEq] at h
    subst h
    obtain ⟨r, q1, q2⟩ := load_addr hz I (hf b)
    obtain ⟨vs, h1, h2⟩ := run_results I hf rs l' (acc.push r) hl
    refine ⟨r :: vs, ?_, by simp [h2.1], fun i a v p1 p2 => ?_⟩
    · have e0 : (resVar tmps (.cell b t)).run P w = .ok r w := q1
      simp only [List.foldlM_cons, Sem.run_bind, e0, Sem.run_pure, Result.andThen_ok, h1]
      congr 1
      apply Array.toList_inj.1
      simp
    · cases i with
      | zero => simp only [List.getElem?_cons_zero, Option.some.injEq] at p1 p2; subst p1 p2; exact q2
      | succ i => exact h2.2 i a v (by simpa using p1) (by simpa using p2)
theorem results_sound {fn : Func} {fr : AFr} {tmps : Array Value} {l : List AV} (I : Inv w F A m H) (hf : RF w F A m fr tmps) (h : aresults P fr H fn.results.toList = some l) :
    ∃ v, (results fn tmps).run P w = .ok v w ∧ RV w F A m (mkRes l) v ∧ ∃ vs : List Value, RL w F A m l vs ∧ v = mkVal vs := by
  obtain ⟨vs, h1, h2⟩ := run_results I hf fn.results.toList l #[] h
  have hm : (fn.results.mapM (resVar tmps) : Sem (Array Value)).run P w = .ok vs.toArray w := by
    rw [Array.mapM_eq_foldlM, ← Array.foldlM_toList]
    simpa using h1
  have e0 : results fn tmps = (do let vs ← fn.results.mapM (resVar tmps); pure (if h : vs.size = 1 then vs[0] else .tuple vs)) := rfl
  have hrun : (results fn tmps).run P w = .ok (if h : vs.toArray.size = 1 then vs.toArray[0] else .tuple vs.toArray) w := by
    rw [e0, Sem.run_bind, hm]
    rfl
  refine ⟨_, hrun, ?_, vs, h2, ?_⟩
  · match l, vs, h2 with
    | [a], [v], h2 => simpa [mkRes] using h2.2 0 a v rfl rfl
    | [], [], h2 => exact .tup [] #[] rfl (by simp)
    | [], _ :: _, h2 => have := h2.1; simp at this
    | _ :: _, [], h2 => have := h2.1; simp at this
    | [_], _ :: _ :: _, h2 => have := h2.1; simp at this
    | _ :: _ :: _, [_], h2 => have := h2.1; simp at this
    | a :: b :: l, v :: u :: vs, h2 =>
      have : (v :: u :: vs).toArray.size ≠ 1 := by simp
      rw [dif_neg this]
      exact .tup _ _ (by simpa using h2.1) (fun i x y q1 q2 => h2.2 i x y q1 (by simpa using q2))
  · match vs with
    | [] => simp [mkVal]
    | [v] => simp [mkVal]
    | _ :: _ :: _ => simp [mkVal]
theorem arun_sound (hC : Tab.Sound P C) (hm : P.follows .mixedOrders = true) (D : Draws P C) (K : Nat → List Nat) {f : FuncId} {fn : Func} {c : Code} (hf : P.funcs[f]? = some fn) (hb : fn.body = some c) (hok : codeOk fn.ntmps c = true)
    {args : List AV} {vs : Array Value} {rs : List AV} {H' : AHeap} (h : arun P C D K fn c args H = some (rs, H')) (I : Inv w F (Nx H) m H) (ha : RLs w F (Nx H) m args vs) :
    Calls P f vs w fun e w' => ∃ us : List Value, e = .returned (mkVal us) ∧ ∃ F' m', Inv w' F' (Nx H') m' H' ∧ RL w' F' (Nx H') m' rs us ∧ Evo w F (Nx H) m H w' F' (Nx H') m' H' := by
  unfold arun at h
  split at h <;> try (cases h; done)
  rename_i hlen
  have hvs : vs.size = args.length := by have := ha.1; simp at this; omega
  refine callsIn_wide (n := 0).1 (callsIn_of_wp_marks hf hb trivial ?_)
  have hS : St w.heap.size fn.ntmps w F m (args0 args) H { tmps := vs ++ Array.replicate (fn.ntmps - vs.size) undef, defers := [] } :=
    ⟨I, args0_rf ha, by simp [hvs]; omega, trivial, Nat.le_refl _⟩
  unfold afin afinR at h
  have fin : ∀ {e : AEx} {fr : AFr} {H1 : AHeap}, acode P C D K c (args0 args) H = some (e, fr, H1) → (e = .normal ∨ e = .ret) → (match aresults P fr H1 fn.results.toList with | some l => some (l, H1) | none => none) = some (rs, H') →
      c.wpIn Fence.wide 0 P (bodyPostM Fence.wide 0 P fn fun e w' => ∃ us : List Value, e = .returned (mkVal us) ∧ ∃ F' m', Inv w' F' (Nx H') m' H' ∧ RL w' F' (Nx H') m' rs us ∧ Evo w F (Nx H) m H w' F' (Nx H') m' H')
        { tmps := vs ++ Array.replicate (fn.ntmps - vs.size) undef, defers := [] } w := by
    intro e fr H1 h1 he h2
    split at h2 <;> try (cases h2; done)
    rename_i l hl
    simp only [Option.some.injEq, Prod.mk.injEq] at h2
    obtain ⟨rfl, rfl⟩ := h2
    refine wpIn_mono (acode_sound hC hm D K c hok none (.inl rfl) (args0 args) H e fr H1 h1 w F m _ hS) ?_
    rintro ex a w' ⟨rfl, F', m', S', E'⟩
    have leaves : ∀ (ds : List Deferred) (b : Nat) (w' : World), Marks w' F' w.heap.size b ds → Inv w' F' (Nx H1) m' H1 → RF w' F' (Nx H1) m' fr a.tmps → Evo w F (Nx H) m H w' F' (Nx H1) m' H1 →
        LeavesInM Fence.wide 0 P fn a.tmps (fun e w' => ∃ us : List Value, e = .returned (mkVal us) ∧ ∃ F' m', Inv w' F' (Nx H1) m' H1 ∧ RL w' F' (Nx H1) m' l us ∧ Evo w F (Nx H) m H w' F' (Nx H1) m' H1) ds .returning w' := by
      intro ds
      induction ds with
      | nil =>
        intro b w' _ i f e
        obtain ⟨v, q1, q2, us, q3, q4⟩ := results_sound i f hl
        exact ⟨v, q1, us, by rw [q4], F', m', i, q3, e⟩
      | cons d ds ih =>
        rintro b w' ⟨D, rfl, h2, h3, h4, h5, h6⟩ i f e
        refine ⟨by simp, .inl ⟨D, _, rfl, run_takeDeferred h5, ih D _ (Marks.shut (Nat.le_refl _) h6) (i.put h4 h5 rfl rfl) (fun t => (f t).put h4 h5 rfl rfl) (e.put h2)⟩⟩
    rcases he with rfl | rfl
    · exact leaves _ _ _ S'.defers S'.inv S'.fr E'
    · exact leaves _ _ _ S'.defers S'.inv S'.fr E'
  split at h
  · rename_i fr H1 h1; exact fin h1 (.inl rfl) h
  · rename_i fr H1 h1; exact fin h1 (.inr rfl) h
  · cases h
theorem mkRes_rv {rs : List AV} {us : List Value} (h : RL w F A m rs us) : RV w F A m (mkRes rs) (mkVal us) := by
  match rs, us, h with
  | [a], [v], h => exact h.2 0 a v rfl rfl
  | [], [], h => exact .tup [] #[] rfl (by simp)
  | [], _ :: _, h => have := h.1; simp at this
  | _ :: _, [], h => have := h.1; simp at this
  | [_], _ :: _ :: _, h => have := h.1; simp at this
  | _ :: _ :: _, [_], h => have := h.1; simp at this
  | a :: b :: l, v :: u :: vs, h => exact .tup _ _ (by simpa using h.1) (fun i x y q1 q2 => h.2 i x y q1 (by simpa using q2))
theorem inv_empty (hb : ∀ cb, F cb → cb < w.heap.size) : Inv w F (Nx AHeap.empty) id AHeap.empty where
  own := fun b blk h => by simp [AHeap.empty] at h
  blk := fun b blk h => by simp [AHeap.empty] at h
  inj := fun b b' x y h => by simp [AHeap.empty] at h
  bound := hb
theorem sound_pure (hC : Tab.Sound P C) (hm : P.follows .mixedOrders = true) (D : Draws P C) (K : Nat → List Nat) {f : FuncId} {fn : Func} {c : Code} (hf : P.funcs[f]? = some fn) (hb : fn.body = some c) (hok : codeOk fn.ntmps c = true) (hcl : Callable P f) :
    Sound P f (.pure false (pureOf P C D K fn c)) := by
  refine ⟨hcl, fun args r h w F vs hF ha => ?_⟩
  unfold pureOf closeUp closeUpR at h
  split at h <;> try (cases h; done)
  rename_i rs H' l hrun hl
  split at h <;> try (cases h; done)
  rename_i rs' S hfr
  simp only [Option.some.injEq] at h
  subst h
  have hno : Nx AHeap.empty = fun _ => False := by funext b; simp [Nx, AHeap.empty]
  refine (arun_sound hC hm D K hf hb hok hrun (inv_empty hF) (by rw [hno]; exact ha)).mono ?_
  rintro e w' ⟨us, rfl, F', m', I', hr, E⟩
  have hown : ∀ b blk, H'.get b = some blk → w.heap.size ≤ m' b := fun b blk h => by
    rcases E.owns b blk h with ⟨b0, x, h0, _⟩ | h
    · simp [AHeap.empty] at h0
    · exact h
  obtain ⟨q1, q2⟩ := frzArgs_sound I' l rs rs' S us hfr hr
  have hr' : RL w' F (fun _ => False) id rs' us := ⟨q1.1, fun i a v h1 h2 => (q1.2 i a v h1 h2).mono (Nat.le_refl _) (fun _ _ => rfl) (fun _ _ _ => rfl)
    (fun cb _ hcb => ⟨E.keep cb (hF cb hcb) hcb (fun b blk h => by simp [AHeap.empty] at h), fun b hb he => by
      obtain ⟨blk, hblk⟩ := q2 b hb
      have := hown b blk hblk
      have := hF cb hcb
      omega⟩) (fun _ h => h.elim)⟩
  exact ⟨_, rfl, ⟨E.os, E.tape, E.output, E.size, fun k hk => E.same k hk (fun b blk h => by simp [AHeap.empty] at h)⟩, RV.mono (w := w') (F := F) (A := fun _ => False) (m := id) (mkRes_rv hr') (Nat.le_refl _) (fun _ _ => rfl) (fun _ _ _ => rfl) (fun _ _ h => h.resolve_right (by simp)) (fun _ h => h.elim)⟩
def copyCell (H : AHeap) : AV → Bool
  | .sl b _ _ _ => match H.get b with | some blk => blk.rows.all fun row => row.all AV.noSlC | none => false
  | .rsl _ [] | .esl _ | .nils => true
  | a => a.noSlC
def copyUpR (l : Option (List (List (Option Nat)))) (x : Option (List AV × AHeap)) : Option AV :=
  match x with
  | some (rs, H') => if rs.all (copyCell H') = true then closeUpR l (some (rs, H')) else none
  | none => none
noncomputable def copyOf (P : Program) (C : Tab) (D : Draws P C) (K : Nat → List Nat) (fn : Func) (c : Code) (args : List AV) : Option AV :=
  copyUpR (tysOf P fn.resultTypes.toList) (arun P C D K fn c args AHeap.empty)
theorem frzCell_copy {n : Option Nat} {a a' : AV} {S : List Nat} {v : Value} {k : Nat} (h : frzCell H n a = some (a', S)) (hc : copyCell H a = true) (I : Inv w F A m H) (hx : RV w F A m a v)
    (hk : ∀ b blk, H.get b = some blk → k ≤ m b) : RV w (fun cb => cb < k) (fun _ => False) id a' v := by
  have simple : a.noSlC = true → a' = a → RV w (fun cb => cb < k) (fun _ => False) id a' v := by
    rintro h1 rfl
    cases hx <;> first | (simp [AV.noSlC] at h1; done) | constructor
  cases a
  case sl b sz off len =>
    simp only [copyCell] at hc
    split at hc <;> try (cases hc; done)
    rename_i blk hb
    have hbA := I.own b blk hb
    have I1 : Inv w (fun cb => cb < w.heap.size) A m { next := H.next, get := fun j => if j = b then some blk else none } := by
      refine ⟨fun b' x hx => ?_, fun b' x hx => ?_, fun b1 b2 x y h1 h2 _ => ?_, fun _ h => h⟩
      · dsimp only at hx
        split at hx <;> try (cases hx; done)
        rename_i e; subst e
        exact ⟨hbA.1, I.bound _ hbA.2⟩
      · have hx' : b' = b ∧ x = blk := by
          dsimp only at hx
          split at hx
          · rename_i e; exact ⟨e, by simpa using hx.symm⟩
          · cases hx
        obtain ⟨rfl, rfl⟩ := hx'
        obtain ⟨c, h1, h2⟩ := I.blk _ _ hb
        refine ⟨c, h1, h2.fits, h2.wide, h2.flat, fun i row j a p1 p2 => ?_⟩
        obtain ⟨u, q1, q2, q3⟩ := h2.cell i row j a p1 p2
        have hns := List.all_eq_true.1 (List.all_eq_true.1 hc row (List.mem_of_getElem? p1)) a (List.mem_of_getElem? p2)
        refine ⟨u, q1, q2, ?_⟩
        cases q3 <;> first | (simp [AV.noSlC] at hns; done) | constructor
      · dsimp only at h1 h2
        split at h1 <;> try (cases h1; done)
        split at h2 <;> try (cases h2; done)
        omega
    have hfr : frzCell { next := H.next, get := fun j => if j = b then some blk else none } n (.sl b sz off len) = some (a', S) := by
      rw [← h]; simp [frzCell, hb]
    have hx1 : RV w (fun cb => cb < w.heap.size) A m (.sl b sz off len) v := by
      cases hx; constructor <;> assumption
    obtain ⟨q1, q2, q3⟩ := frzCell_sound hfr I1 hx1
    have hS : S = [b] := by
      simp only [frzCell, hb] at h
      split at h <;> try (cases h; done)
      simp only [Option.some.injEq, Prod.mk.injEq] at h
      exact h.2.symm
    subst hS
    refine (q1.mono (F' := fun cb => cb < k) (Nat.le_refl _) (fun _ _ => rfl) (fun _ _ _ => rfl) (fun cb h1 h2 => ⟨h1, fun b' hb' e => ?_⟩) (fun _ h => ⟨h, rfl⟩)).flat_any q2
    simp only [List.mem_singleton] at hb'
    subst hb'
    have := hk b' blk hb
    omega
  case nils =>
    cases hx
    simp only [frzCell] at h
    split at h <;> simp only [Option.some.injEq, Prod.mk.injEq] at h
    · rw [← h.1]; exact .rsl0 _ _ _ fun _ => rfl
    · rw [← h.1]; exact .nils
  case esl sz =>
    cases hx
    simp only [frzCell, Option.some.injEq, Prod.mk.injEq] at h
    rw [← h.1]; exact .rsl0 _ _ _ fun h => by cases h
  case rsl sz rows =>
    cases rows with
    | cons r rs => simp [copyCell, AV.noSlC] at hc
    | nil =>
      simp only [frzCell, AV.flat, if_true, Option.some.injEq, Prod.mk.injEq] at h
      rw [← h.1]
      cases hx with
      | rsl0 _ _ _ h0 => exact .rsl0 _ _ _ h0
      | rsl _ _ _ _ cap => exact .rsl0 _ _ _ fun h => by cases h
  all_goals
    simp only [copyCell] at hc
    simp only [frzCell, AV.flat] at h
    simp at h
    try exact simple hc h.1.symm
theorem frzArgs_copy {k : Nat} (I : Inv w F A m H) (hk : ∀ b blk, H.get b = some blk → k ≤ m b) : ∀ (l : List (List (Option Nat))) (cs cs' : List AV) (S : List Nat) (vs : List Value), frzArgs H l cs = some (cs', S) → cs.all (copyCell H) = true → RL w F A m cs vs →
    RL w (fun cb => cb < k) (fun _ => False) id cs' vs
  | [], [], cs', S, vs, h, _, hr => by
    simp only [frzArgs, Option.some.injEq, Prod.mk.injEq] at h
    rw [← h.1]
    exact ⟨hr.1, by simp⟩
  | [], _ :: _, _, _, _, h, _, _ => by simp [frzArgs] at h
  | _ :: _, [], _, _, _, h, _, _ => by simp [frzArgs] at h
  | n :: l, a :: cs, cs', S, [], h, _, hr => by have := hr.1; simp at this
  | n :: l, a :: cs, cs', S, v :: vs, h, hc, hr => by
    simp only [frzArgs] at h
    split at h <;> try (cases h; done)
    rename_i a' S1 cs1 S2 h1 h2
    simp only [Option.some.injEq, Prod.mk.injEq] at h
    obtain ⟨rfl, rfl⟩ := h
    simp only [List.all_cons, Bool.and_eq_true] at hc
    have hfc : frzCell H (n.headD none) a = some (a', S1) := by
      unfold frz at h1
      split at h1
      · simp [copyCell, AV.noSlC] at hc
      · exact h1
    have q := frzCell_copy hfc hc.1 I (hr.2 0 a v rfl rfl) hk
    have p := frzArgs_copy I hk l cs cs1 S2 vs h2 hc.2 ⟨by simpa using hr.1, fun i a v h1 h2 => hr.2 (i + 1) a v (by simpa using h1) (by simpa using h2)⟩
    refine ⟨by simp [p.1], fun i b u h3 h4 => ?_⟩
    cases i with
    | zero => simp at h3 h4; subst h3 h4; exact q
    | succ i => exact p.2 i b u (by simpa using h3) (by simpa using h4)
theorem sound_copy (hC : Tab.Sound P C) (hm : P.follows .mixedOrders = true) (D : Draws P C) (K : Nat → List Nat) {f : FuncId} {fn : Func} {c : Code} (hf : P.funcs[f]? = some fn) (hb : fn.body = some c) (hok : codeOk fn.ntmps c = true) (hcl : Callable P f) :
    Sound P f (.pure true (copyOf P C D K fn c)) := by
  refine ⟨hcl, fun args r h w F vs hF ha => ?_⟩
  unfold copyOf copyUpR at h
  split at h <;> try (cases h; done)
  rename_i rs H' hrun
  split at h <;> try (cases h; done)
  rename_i hcp
  unfold closeUpR at h
  split at h <;> try (cases h; done)
  rename_i rs0 H0 l hrl hl
  simp only [Option.some.injEq, Prod.mk.injEq] at hrl
  obtain ⟨rfl, rfl⟩ := hrl
  split at h <;> try (cases h; done)
  rename_i rs' S hfr
  simp only [Option.some.injEq] at h
  subst h
  have hno : Nx AHeap.empty = fun _ => False := by funext b; simp [Nx, AHeap.empty]
  refine (arun_sound hC hm D K hf hb hok hrun (inv_empty hF) (by rw [hno]; exact ha)).mono ?_
  rintro e w' ⟨us, rfl, F', m', I', hr, E⟩
  have hown : ∀ b blk, H'.get b = some blk → w.heap.size ≤ m' b := fun b blk h => by
    rcases E.owns b blk h with ⟨b0, x, h0, _⟩ | h
    · simp [AHeap.empty] at h0
    · exact h
  have q := frzArgs_copy I' hown l rs rs' S us hfr hcp hr
  refine ⟨_, rfl, ⟨E.os, E.tape, E.output, E.size, fun k hk => E.same k hk (fun b blk h => by simp [AHeap.empty] at h)⟩, ?_⟩
  exact RV.mono (w := w') (F := fun cb => cb < w.heap.size) (A := fun _ => False) (m := id) (mkRes_rv q) (Nat.le_refl _) (fun _ _ => rfl) (fun _ _ _ => rfl) (fun cb _ h => h.elim (hF cb) (fun h => h.2)) (fun _ h => h.elim)
theorem sound_ref (hC : Tab.Sound P C) (hm : P.follows .mixedOrders = true) (D : Draws P C) (K : Nat → List Nat) {f : FuncId} {fn : Func} {c : Code} (hf : P.funcs[f]? = some fn) (hb : fn.body = some c) (hok : codeOk fn.ntmps c = true) (hcl : Callable P f) (fz : List Bool) :
    Sound P f (.ref fz (refOf P C D K fn c)) := by
  refine ⟨hcl, fun args H r H' h w F m vs I ha => ?_⟩
  unfold refOf raw at h
  split at h <;> try (cases h; done)
  rename_i rs H1 hrun
  simp only [Option.some.injEq, Prod.mk.injEq] at h
  obtain ⟨rfl, rfl⟩ := h
  refine (arun_sound hC hm D K hf hb hok hrun I ha).mono ?_
  rintro e w' ⟨us, rfl, F', m', I', hr, E⟩
  exact ⟨_, F', m', rfl, I', mkRes_rv hr, E⟩
theorem RV.fewer {A' : Nat → Prop} {a : AV} {v : Value} {n : Nat} (h : RV w F A m a v) (hi : idsBelow n a = true) (hA : ∀ b, b < n → A' b) : RV w F A' m a v := by
  cases h with
  | ptr b sz i j _ => exact .ptr b sz i j (hA b (by simpa [idsBelow] using hi))
  | sl b sz off len cap e _ hc hm hs => exact .sl b sz off len cap e (hA b (by simpa [idsBelow] using hi)) hc hm hs
  | undef v => exact .undef v
  | int k n => exact .int k n
  | bool b => exact .bool b
  | str s => exact .str s
  | nilp => exact .nilp
  | nils => exact .nils
  | nilf => exact .nilf
  | esl sz a cap => exact .esl sz a cap
  | rsl0 sz a cap h0 => exact .rsl0 sz a cap h0
  | rsl sz rows cb co cap val hF hb hc hr hfl hv hrv => exact (RV.rsl (A := A) (m := m) sz rows cb co cap val hF hb hc hr hfl hv hrv).flat_any rfl
  | agg => simp [idsBelow, AV.flat] at hi
  | tup => simp [idsBelow, AV.flat] at hi
  | rptr => simp [idsBelow, AV.flat] at hi
  | clo => simp [idsBelow, AV.flat] at hi
  | mp => simp [idsBelow, AV.flat] at hi
  | gho => simp [idsBelow, AV.flat] at hi
theorem RV.back {w' : World} {F' A' : Nat → Prop} {m' : Nat → Nat} {a : AV} {v v' : Value} (h : RV w F A m a v) (h' : RV w' F' A' m' a v') : RV w' F' A m' a v' := by
  induction h generalizing v' with
  | undef v => exact .undef _
  | int k n => cases h'; exact .int k n
  | bool b => cases h'; exact .bool b
  | str s => cases h'; exact .str s
  | nilp => cases h'; exact .nilp
  | nils => cases h'; exact .nils
  | nilf => cases h'; exact .nilf
  | ptr b sz i j hA => cases h'; exact .ptr b sz i j hA
  | mp k hA => cases h'; exact .mp k hA
  | gho k rows v => exact .gho k rows _
  | sl b sz off len cap e hA _ _ _ => cases h' with
    | sl _ _ _ _ cap e _ hc hm hs => exact .sl b sz off len cap e hA hc hm hs
  | esl sz a cap => cases h'; exact .esl _ _ _
  | rsl0 sz a cap h0 => cases h' with
    | rsl0 _ _ _ h0' => exact .rsl0 _ _ _ h0'
    | rsl sz rows cb co cap val hF hb hc hr hfl hv hrv => exact (RV.rsl (A := A') (m := m') sz _ cb co cap val hF hb hc hr hfl hv hrv).flat_any rfl
  | rsl sz rows cb co cap val hF hb hc hr hfl hv hrv ih => exact h'.flat_any rfl
  | rptr sz rows i0 j0 cb co val hF hb hr hfl hv hrv ih => cases h' with
    | rptr sz rows i0 j0 cb' co' val' hF' hb' hr' hfl' hv' hrv' =>
      exact .rptr sz rows i0 j0 cb' co' val' hF' hb' hr' hfl' hv' fun i row j a h1 h2 => ih i row j a h1 h2 (hrv' i row j a h1 h2)
  | agg cs vs hl hc ih => cases h' with
    | agg _ vs' hl' hc' =>
      refine .agg _ _ hl' fun i a v q1 q2 => ?_
      · have hi : i < vs.size := by rw [← hl]; exact (List.getElem?_eq_some_iff.1 q1).1
        exact ih i a vs[i] q1 (by simp [hi]) (hc' i a v q1 q2)
  | tup cs vs hl hc ih => cases h' with
    | tup _ vs' hl' hc' =>
      refine .tup _ _ hl' fun i a v q1 q2 => ?_
      · have hi : i < vs.size := by rw [← hl]; exact (List.getElem?_eq_some_iff.1 q1).1
        exact ih i a vs[i] q1 (by simp [hi]) (hc' i a v q1 q2)
  | clo f first caps vs us hl hl' h1 h2 ih ih' => cases h' with
    | clo _ _ _ vs' us' hl1 hl2 p1 p2 =>
      exact .clo f first caps vs' us' hl1 hl2
        (fun i a v q1 q2 => by
          have hi : i < vs.size := by rw [← hl]; exact (List.getElem?_eq_some_iff.1 q1).1
          exact ih i a vs[i] q1 (by simp [hi]) (p1 i a v q1 q2))
        (fun i a v q1 q2 => by
          have hi : i < us.size := by rw [← hl']; exact (List.getElem?_eq_some_iff.1 q1).1
          exact ih' i a us[i] q1 (by simp [hi]) (p2 i a v q1 q2))
theorem sound_refT (hC : Tab.Sound P C) (hm : P.follows .mixedOrders = true) (D : Draws P C) (K : Nat → List Nat) {f : FuncId} {fn : Func} {c : Code} (hf : P.funcs[f]? = some fn) (hb : fn.body = some c) (hok : codeOk fn.ntmps c = true) (hcl : Callable P f) (fz : List Bool) :
    Sound P f (.ref fz (refT P C D K fn c)) := by
  refine ⟨hcl, fun args H r H' h w F m vs I ha => ?_⟩
  unfold refT forget at h
  split at h <;> try (cases h; done)
  rename_i rs H1 hrun
  split at h <;> try (cases h; done)
  rename_i hok2
  obtain ⟨hcd, htr, hnx⟩ := hok2
  simp only [Option.some.injEq, Prod.mk.injEq] at h
  obtain ⟨rfl, rfl⟩ := h
  refine (arun_sound hC hm D K hf hb hok hrun I ha).mono ?_
  rintro e w' ⟨us, rfl, F', m', I', hr, E⟩
  have hN : Nx (H1.trunc H.next) = Nx H := rfl
  have hg : ∀ b x, (H1.trunc H.next).get b = some x → b < H.next ∧ H1.get b = some x := fun b x h => by
    simp only [AHeap.trunc] at h
    split at h
    · rename_i hb; exact ⟨hb, h⟩
    · cases h
  refine ⟨_, F', m', rfl, ⟨fun b x h => ?_, fun b x h => ?_, fun b b' x y h h' => ?_, I'.bound⟩, (mkRes_rv hr).closed_any hcd,
    ⟨E.os, E.tape, E.output, E.size, E.shape, E.same, E.forb, E.keep, fun b hb => ⟨hb, (E.ext b hb).2⟩, fun b x h => E.owns b x (hg b x h).2⟩⟩
  · obtain ⟨h1, h2⟩ := hg b x h
    exact ⟨h1, (I'.own b x h2).2⟩
  · obtain ⟨h1, h2⟩ := hg b x h
    obtain ⟨c', hc', hr'⟩ := I'.blk b x h2
    refine ⟨c', hc', hr'.fits, hr'.wide, hr'.flat, fun i row j a p1 p2 => ?_⟩
    obtain ⟨v, q1, q2, q3⟩ := hr'.cell i row j a p1 p2
    refine ⟨v, q1, q2, ?_⟩
    rcases htr b h1 with he | he
    · rw [h2] at he
      obtain ⟨c0, _, hr0⟩ := I.blk b x he.symm
      obtain ⟨v0, _, _, q0⟩ := hr0.cell i row j a p1 p2
      exact q0.back q3
    · exact q3.fewer (he x h2 row (List.mem_of_getElem? p1) a (List.mem_of_getElem? p2)) (fun b hb => hb)
  · exact I'.inj b b' x y (hg b x h).2 (hg b' y h').2
end
end Go.Abs
end
section
set_option linter.unusedSimpArgs false
set_option linter.unusedVariables false
namespace Go.Abs
inductive Cls where
  | p | l | al | w | wa | g
  deriving DecidableEq
def clsOf (C : Tab) (op : Op) : Cls :=
  match op with
  | .load .. => .l
  | .store .. => .w
  | .alloc _ | .box .. | .buildSlice .. | .makeSlice .. => .al
  | .call c => match c.callee with
    | .builtin .append => .wa
    | .builtin .copy => .g
    | .builtin .clear => .g
    | .builtin _ => .p
    | .value (.func f) => match C f with
      | some (.pure ..) => .w
      | _ => .g
    | _ => .g
  | _ => .p
def Cls.isW : Cls → Bool
  | .w | .wa | .g => true
  | _ => false
def Cls.isAl : Cls → Bool
  | .al | .wa | .g => true
  | _ => false
def clsPair (a b : Cls) : Bool := !(a.isW && b.isW) && !(b == .g && a.isAl)
def notSelect (o : Oper) : Bool := match o.op with | .select .. => false | _ => true
def pairOk (C : Tab) (ops : Array Oper) (x y : Oper) : Bool := Oper.apart ops x y && clsPair (clsOf C x.op) (clsOf C y.op)
def rowOk (C : Tab) (ops : Array Oper) (B : Nat) (y : Oper) : Nat → List Oper → Bool
  | _, [] => true
  | i, x :: xs => (B.testBit i || pairOk C ops x y) && rowOk C ops B y (i + 1) xs
def bitOk (Bs : Array Nat) (j : Nat) (y : Oper) : Nat → List Oper → Bool
  | _, [] => true
  | i, _ :: xs => (!(Bs.getD j 0).testBit i || (decide (i < j) && y.after.toList.any fun e => Region.binds .any e && (e.on == i || (Bs.getD e.on 0).testBit i))) && bitOk Bs j y (i + 1) xs
def regGo (C : Tab) (ops : Array Oper) (Bs : Array Nat) : Nat → List Oper → Bool
  | _, [] => true
  | j, y :: ys => rowOk C ops (Bs.getD j 0) y 0 (ops.toList.take j) && bitOk Bs j y 0 ops.toList && (y.after.toList.all fun e => !Region.binds .any e || decide (e.on < j)) && notSelect y && regGo C ops Bs (j + 1) ys
def regOk (C : Tab) (ops : Array Oper) : Bool := regGo C ops (Region.before ops) 0 ops.toList
def pairsOf (C : Tab) (Bs : Array Nat) (j : Nat) : Nat → List Oper → List (Nat × Nat)
  | _, [] => []
  | i, x :: xs =>
    if (Bs.getD j 0).testBit i || (Bs.getD i 0).testBit j then pairsOf C Bs j (i + 1) xs
    else if (clsOf C x.op).isW then (j, i) :: pairsOf C Bs j (i + 1) xs
    else pairsOf C Bs j (i + 1) xs
def lwGo (C : Tab) (ops : Array Oper) (Bs : Array Nat) : Nat → List Oper → List (Nat × Nat)
  | _, [] => []
  | j, y :: ys => (match clsOf C y.op with | .l => pairsOf C Bs j 0 ops.toList | _ => []) ++ lwGo C ops Bs (j + 1) ys
def lwPairs (C : Tab) (ops : Array Oper) : List (Nat × Nat) := lwGo C ops (Region.before ops) 0 ops.toList
open Classical in
noncomputable def withChk {α : Type} : List Prop → Option α → Option α
  | [], x => x
  | p :: ps, x => if p then withChk ps x else none
def chk (P : Program) (ops : Array Oper) (tr : List (AFr × AHeap)) (q : Nat × Nat) : Prop :=
  match (ops[q.1]?).map (·.op), tr[q.1]?, tr[q.2]?, tr[q.2 + 1]? with
  | some (.load t a), some (frj, _), some (_, Hi), some (_, Hi1) => aload P t (frj.eval a) Hi = aload P t (frj.eval a) Hi1
  | _, _, _, _ => False
def scv (n : Nat) : AV → Bool
  | .undef => true
  | .gho _ _ => true
  | .agg cs => cs.all (idsBelow n)
  | .tup cs => cs.all (idsBelow n)
  | .clo _ fs cs => fs.all (idsBelow n) && cs.all (idsBelow n)
  | a => idsBelow n a
def Scope (vals : List AV) (H : AHeap) : Prop := (∀ a, a ∈ vals → scv H.next a = true) ∧ ∀ b blk, H.get b = some blk → ∀ row, row ∈ blk.rows → ∀ a, a ∈ row → scv H.next a = true
def gaOf (C : Tab) (Bs : Array Nat) (j : Nat) : Nat → List Oper → Bool
  | _, [] => false
  | i, x :: xs => (decide (j < i) && (match clsOf C x.op with | .al => true | _ => false) && !(Bs.getD j 0).testBit i && !(Bs.getD i 0).testBit j) || gaOf C Bs j (i + 1) xs
def gaGo (C : Tab) (ops : Array Oper) (Bs : Array Nat) : Nat → List Oper → List Nat
  | _, [] => []
  | j, y :: ys => (match clsOf C y.op with | .g => if gaOf C Bs j 0 ops.toList = true then [j] else [] | _ => []) ++ gaGo C ops Bs (j + 1) ys
def gaList (C : Tab) (ops : Array Oper) : List Nat := gaGo C ops (Region.before ops) 0 ops.toList
def chkS (ops : Array Oper) (tr : List (AFr × AHeap)) (j : Nat) : Prop :=
  match ops[j]?, tr[j]? with
  | some o, some (fr, H) => Scope (o.op.operands.toList.map fr.eval) H
  | _, _ => False
def san (H : AHeap) (x : Option (AV × AHeap)) : Option (AV × AHeap) :=
  match x with
  | some (v, H') => if H.next ≤ H'.next then some (v, { next := H'.next, get := fun b => if b < H'.next then H'.get b else none }) else none
  | none => none
def dstep (P : Program) (C : Tab) (ops : Array Oper) (fr : AFr) (H : AHeap) (o : Oper) : Option (AV × AHeap) :=
  match clsOf C o.op with
  | .g => san H (astep P C ops fr H o)
  | _ => astep P C ops fr H o
noncomputable def adrawGo (P : Program) (C : Tab) (ops : Array Oper) (l : List Nat) : List Oper → AFr → AHeap → List (AFr × AHeap) → Option (AFr × AHeap)
  | [], fr, H, hist => withChk ((lwPairs C ops).map (chk P ops ((fr, H) :: hist).reverse) ++ (gaList C ops).map (chkS ops ((fr, H) :: hist).reverse)) (some (fr.only l, H))
  | o :: rest, fr, H, hist => op (dstep P C ops fr H o) fun v H' => adrawGo P C ops l rest (fr.put o.dst v) H' ((fr, H) :: hist)
noncomputable def adraw (P : Program) (C : Tab) (ops : Array Oper) (l : List Nat) (fr : AFr) (H : AHeap) : Option (AFr × AHeap) :=
  if regOk C ops = true then adrawGo P C ops l ops.toList fr H [] else none
theorem aop_congr {P : Program} {C : Tab} {ρ ρ' : Operand → AV} (H : AHeap) (o : Op) (h : ∀ x ∈ o.operands, ρ x = ρ' x) : aop P C ρ H o = aop P C ρ' H o := by
  have pairs : ∀ ps : Array (Nat × Operand), (∀ x ∈ (ps.toList.map (·.2)).toArray, ρ x = ρ' x) → (ps.toList.map fun p => (p.1, ρ p.2)) = (ps.toList.map fun p => (p.1, ρ' p.2)) := fun ps hp =>
    List.map_congr_left fun p hm => by simp only [hp p.2 (by simp; exact ⟨p.1, by simpa using hm⟩)]
  cases o <;> simp only [Op.operands] at h
  case build t ps => simp only [aop, aval, pairs ps h]
  case buildSlice t n ps => simp only [aop, pairs ps h]
  case makeFunc fn first captured =>
    cases fn <;> simp only [aop, aval]
    rw [List.map_congr_left (l := first.toList) fun x hx => h x (by simp at hx; simp [hx]), List.map_congr_left (l := captured.toList) fun x hx => h x (by simp at hx; simp [hx])]
  case slice t x lo hi mx => cases lo <;> cases hi <;> cases mx <;> simp_all [aop, aval]
  case call c =>
    obtain ⟨callee, args, argTypes⟩ := c
    have hargs : ∀ x ∈ args.toList, ρ x = ρ' x := fun x hx => h x (by simp at hx; simp [Call.operands, hx])
    simp only [aop, acallOp]
    cases callee with
    | value f =>
      have hf : ρ f = ρ' f := h f (by simp [Call.operands])
      simp only [hf, List.map_congr_left hargs]
    | invoke r m => rfl
    | builtin b =>
      obtain ⟨al⟩ := args
      cases b <;> simp only [aval]
      all_goals first
        | rfl
        | (rcases al with _ | ⟨x, _ | ⟨y, _ | _⟩⟩ <;> simp_all <;> (split <;> simp_all))
        | (rcases al with _ | ⟨x, _ | ⟨y, _ | _⟩⟩ <;> simp_all)
  all_goals first
    | rfl
    | (simp only [aop, aval]; simp_all; done)
section
variable {P : Program} {C : Tab} {w : World} {F A : Nat → Prop} {m : Nat → Nat} {H G H' : AHeap}
def Has (A : Nat → Prop) (H G : AHeap) : Prop := ∀ b x, A b → H.get b = some x → G.get b = some x
theorem frzCell_local {n : Option Nat} {a a' : AV} {S : List Nat} {v : Value} (h : frzCell H n a = some (a', S)) (hv : RV w F A m a v) (hG : Has A H G) :
    frzCell G n a = some (a', S) ∧ ∀ b, b ∈ S → A b ∧ ∃ x, H.get b = some x := by
  unfold frzCell at h ⊢
  split at h
  · cases hv with
    | sl b sz off len cap e hA _ _ _ =>
      split at h <;> try (cases h; done)
      rename_i blk hb
      rw [hG _ _ hA hb]
      dsimp only
      split at h <;> try (cases h; done)
      rename_i hc
      rw [if_pos hc]
      refine ⟨h, fun b' hb' => ?_⟩
      simp only [Option.some.injEq, Prod.mk.injEq] at h
      rw [← h.2] at hb'
      simp only [List.mem_singleton] at hb'
      subst hb'
      exact ⟨hA, blk, hb⟩
  · split at h <;> (simp only [Option.some.injEq, Prod.mk.injEq] at h ⊢; exact ⟨h, by rw [← h.2]; simp⟩)
  · simp only [Option.some.injEq, Prod.mk.injEq] at h ⊢
    exact ⟨h, by rw [← h.2]; simp⟩
  · split at h <;> try (cases h; done)
    rename_i hf
    refine ⟨by rw [if_pos hf]; exact h, ?_⟩
    simp only [Option.some.injEq, Prod.mk.injEq] at h
    rw [← h.2]; simp
theorem frzCells_local : ∀ (l : List (Option Nat)) (cs cs' : List AV) (S : List Nat) (vs : List Value), frzCells H l cs = some (cs', S) → RL w F A m cs vs → Has A H G →
    frzCells G l cs = some (cs', S) ∧ ∀ b, b ∈ S → A b ∧ ∃ x, H.get b = some x
  | [], [], cs', S, vs, h, hr, hG => by
    simp only [frzCells] at h ⊢
    refine ⟨h, ?_⟩
    simp only [Option.some.injEq, Prod.mk.injEq] at h
    rw [← h.2]; simp
  | [], _ :: _, _, _, _, h, _, _ => by simp [frzCells] at h
  | _ :: _, [], _, _, _, h, _, _ => by simp [frzCells] at h
  | n :: l, a :: cs, cs', S, [], h, hr, hG => by have := hr.1; simp at this
  | n :: l, a :: cs, cs', S, v :: vs, h, hr, hG => by
    simp only [frzCells] at h ⊢
    split at h <;> try (cases h; done)
    rename_i a' S1 cs1 S2 h1 h2
    obtain ⟨q1, q2⟩ := frzCell_local h1 (hr.2 0 a v rfl rfl) hG
    obtain ⟨p1, p2⟩ := frzCells_local l cs cs1 S2 vs h2 ⟨by simpa using hr.1, fun i a v h1 h2 => hr.2 (i + 1) a v (by simpa using h1) (by simpa using h2)⟩ hG
    rw [q1, p1]
    refine ⟨h, fun b hb => ?_⟩
    simp only [Option.some.injEq, Prod.mk.injEq] at h
    rw [← h.2] at hb
    exact (List.mem_append.1 hb).elim (q2 b) (p2 b)
theorem frz_local {l : List (Option Nat)} {a a' : AV} {S : List Nat} {v : Value} (h : frz H l a = some (a', S)) (hv : RV w F A m a v) (hG : Has A H G) :
    frz G l a = some (a', S) ∧ ∀ b, b ∈ S → A b ∧ ∃ x, H.get b = some x := by
  unfold frz at h ⊢
  split at h
  · split at h <;> try (cases h; done)
    rename_i cs _ cs' S' h1
    cases hv with
    | agg cs vs hl hc =>
      obtain ⟨q1, q2⟩ := frzCells_local (G := G) l cs cs' S' vs.toList h1 ⟨by simpa using hl, fun i a v h1 h2 => hc i a v h1 (by simpa using h2)⟩ hG
      rw [q1]
      refine ⟨h, fun b hb => ?_⟩
      simp only [Option.some.injEq, Prod.mk.injEq] at h
      rw [← h.2] at hb
      exact q2 b hb
  · exact frzCell_local h hv hG
theorem frzArgs_local : ∀ (l : List (List (Option Nat))) (cs cs' : List AV) (S : List Nat) (vs : List Value), frzArgs H l cs = some (cs', S) → RL w F A m cs vs → Has A H G →
    frzArgs G l cs = some (cs', S) ∧ ∀ b, b ∈ S → A b ∧ ∃ x, H.get b = some x
  | [], [], cs', S, vs, h, hr, hG => by
    simp only [frzArgs] at h ⊢
    refine ⟨h, ?_⟩
    simp only [Option.some.injEq, Prod.mk.injEq] at h
    rw [← h.2]; simp
  | [], _ :: _, _, _, _, h, _, _ => by simp [frzArgs] at h
  | _ :: _, [], _, _, _, h, _, _ => by simp [frzArgs] at h
  | n :: l, a :: cs, cs', S, [], h, hr, hG => by have := hr.1; simp at this
  | n :: l, a :: cs, cs', S, v :: vs, h, hr, hG => by
    simp only [frzArgs] at h ⊢
    split at h <;> try (cases h; done)
    rename_i a' S1 cs1 S2 h1 h2
    obtain ⟨q1, q2⟩ := frz_local h1 (hr.2 0 a v rfl rfl) hG
    obtain ⟨p1, p2⟩ := frzArgs_local l cs cs1 S2 vs h2 ⟨by simpa using hr.1, fun i a v h1 h2 => hr.2 (i + 1) a v (by simpa using h1) (by simpa using h2)⟩ hG
    rw [q1, p1]
    refine ⟨h, fun b hb => ?_⟩
    simp only [Option.some.injEq, Prod.mk.injEq] at h
    rw [← h.2] at hb
    exact (List.mem_append.1 hb).elim (q2 b) (p2 b)
def Loc (A : Nat → Prop) (H H' : AHeap) (run : AHeap → Option (AV × AHeap)) (z : AV) : Prop :=
  ∀ G, (H'.next = H.next ∨ (G.next = H.next ∧ G.get H.next = none ∧ H.get H.next = none)) → Has A H G → ∃ (G' : AHeap) (S : Nat → Prop), run G = some (z, G') ∧
    (∀ b, S b → (A b ∧ ∃ x, H.get b = some x) ∨ (b = H.next ∧ H'.next = H.next + 1)) ∧ (∀ b, S b → G'.get b = H'.get b) ∧ (∀ b, ¬ S b → G'.get b = G.get b ∧ H'.get b = H.get b) ∧
    ((H'.next = H.next ∧ G'.next = G.next) ∨ (H'.next = H.next + 1 ∧ G'.next = G.next + 1 ∧ S H.next))
theorem loc_push {x : Blk} {z : AV} {run : AHeap → Option (AV × AHeap)} (hr : ∀ G : AHeap, G.next = H.next → run G = some (z, G.push x)) : Loc A H (H.push x) run z := by
  intro G hn hG
  obtain ⟨hn, _, _⟩ := hn.resolve_left (by simp [AHeap.push])
  refine ⟨G.push x, fun b => b = H.next, hr G hn, fun b hb => .inr ⟨hb, rfl⟩, fun b hb => ?_, fun b hb => ?_, .inr ⟨rfl, rfl, rfl⟩⟩
  · subst hb; simp [AHeap.push, hn]
  · have hb : b ≠ H.next := hb
    simp [AHeap.push, hn, hb]
theorem abox_local {e : TypeId} {x z : AV} (h : abox e x H = some (z, H')) (A : Nat → Prop) : Loc A H H' (abox e x) z := by
  unfold abox at h
  split at h <;> try (cases h; done)
  rename_i cs hcs
  split at h <;> try (cases h; done)
  rename_i hc
  simp only [Option.some.injEq, Prod.mk.injEq] at h
  obtain ⟨rfl, rfl⟩ := h
  exact loc_push fun G hn => by unfold abox; rw [hcs]; dsimp only; rw [if_pos hc, hn]
theorem aalloc_local {e : TypeId} {z : AV} (h : aalloc P e H = some (z, H')) (A : Nat → Prop) : Loc A H H' (aalloc P e) z := by
  unfold aalloc aallocR at h
  split at h <;> try (cases h; done)
  rename_i x hx
  have := abox_local h A
  have e : aalloc P e = abox e x := by funext G; unfold aalloc aallocR; rw [hx]
  rw [e]; exact this
theorem abuildSlice_local {t : TypeId} {n : Nat} {parts : List (Nat × AV)} {z : AV} (h : abuildSlice P t n parts H = some (z, H')) (A : Nat → Prop) : Loc A H H' (abuildSlice P t n parts) z := by
  unfold abuildSlice abuildSliceR at h
  repeat' split at h
  all_goals first | (cases h; done) | skip
  all_goals
    simp only [Option.some.injEq, Prod.mk.injEq] at h
    obtain ⟨rfl, rfl⟩ := h
    refine loc_push fun G hn => ?_
    unfold abuildSlice abuildSliceR
    simp_all
theorem amake_local {t : TypeId} {l c z : AV} (h : amake P t l c H = some (z, H')) (A : Nat → Prop) : Loc A H H' (amake P t l c) z := by
  unfold amake amakeR at h
  repeat' split at h
  all_goals first | (cases h; done) | skip
  all_goals
    simp only [Option.some.injEq, Prod.mk.injEq] at h
    obtain ⟨rfl, rfl⟩ := h
    refine loc_push fun G hn => ?_
    unfold amake amakeR
    simp_all
end
end Go.Abs
end
section
set_option linter.unusedSimpArgs false
set_option linter.unusedVariables false
namespace Go.Abs
section
variable {P : Program} {C : Tab} {w : World} {F A : Nat → Prop} {m : Nat → Nat} {H G H' : AHeap}
theorem loc_set {b : Nat} {blk : Blk} {x : Option Blk} {z : AV} {run : AHeap → Option (AV × AHeap)} (hA : A b) (hb : H.get b = some blk)
    (hr : ∀ G, G.get b = some blk → run G = some (z, G.set b x)) : Loc A H (H.set b x) run z := by
  intro G _ hG
  refine ⟨G.set b x, fun b' => b' = b, hr G (hG b blk hA hb), fun b' hb' => ?_, fun b' hb' => ?_, fun b' hb' => ?_, .inl ⟨rfl, rfl⟩⟩
  · have hb' : b' = b := hb'
    subst hb'; exact .inl ⟨hA, blk, hb⟩
  · have hb' : b' = b := hb'
    subst hb'; simp [AHeap.set]
  · have hb' : b' ≠ b := hb'
    simp [AHeap.set, hb']
theorem astore_local {t : TypeId} {p x : AV} {u : Value} (h : astore P t p x H = some H') (hp : RV w F A m p u) : Loc A H H' (fun G => liftS (astore P t p x G)) .undef := by
  unfold astore astoreR at h
  split at h <;> try (cases h; done)
  rename_i b sz i j
  cases hp with
  | ptr _ _ _ _ hA =>
    split at h <;> try (cases h; done)
    rename_i blk cs n hb hcs hk
    split at h <;> try (cases h; done)
    rename_i hc
    split at h <;> try (cases h; done)
    rename_i row hrow
    split at h <;> try (cases h; done)
    rename_i hle
    simp only [Option.some.injEq] at h
    subst h
    refine loc_set hA hb fun G hg => ?_
    unfold astore astoreR
    dsimp only
    rw [hg, hcs, hk]
    dsimp only
    rw [if_pos hc, hrow]
    dsimp only
    rw [if_pos hle]
    rfl
theorem callP_local {keep : Bool} {spec : List AV → Option AV} {l : List (List (Option Nat))} {args : List AV} {vs : List Value} {z : AV} (h : callP keep spec l args H = some (z, H')) (ha : RL w F A m args vs) :
    Loc A H H' (callP keep spec l args) z := by
  intro G _ hG
  unfold callP at h
  split at h <;> try (cases h; done)
  rename_i args' S hfr
  split at h <;> try (cases h; done)
  rename_i r hr
  split at h <;> try (cases h; done)
  rename_i hcd
  obtain ⟨q1, q2⟩ := frzArgs_local l args args' S vs hfr ha hG
  unfold callP
  rw [q1]
  dsimp only
  rw [hr]
  dsimp only
  rw [if_pos hcd]
  split at h
  · rename_i hc
    simp only [Option.some.injEq, Prod.mk.injEq] at h
    obtain ⟨rfl, rfl⟩ := h
    rw [if_pos hc]
    exact ⟨G, fun _ => False, rfl, fun _ h => h.elim, fun _ h => h.elim, fun _ _ => ⟨rfl, rfl⟩, .inl ⟨rfl, rfl⟩⟩
  · rename_i hc
    simp only [Option.some.injEq, Prod.mk.injEq] at h
    obtain ⟨rfl, rfl⟩ := h
    rw [if_neg hc]
    refine ⟨G.killAll S, fun b => b ∈ S, rfl, fun b hb => .inl (q2 b hb), fun b hb => ?_, fun b hb => ?_, .inl ⟨rfl, rfl⟩⟩
    · have hb : b ∈ S := hb
      simp [AHeap.killAll, hb]
    · have hb : b ∉ S := hb
      simp [AHeap.killAll, hb]
theorem rowsOf_local {x : AV} {sz : Nat} {u : Value} {r : List (List AV) × Bool} (h : rowsOf x sz H = some r) (hx : RV w F A m x u) (hG : Has A H G) : rowsOf x sz G = some r := by
  unfold rowsOf at h ⊢
  split at h <;> try exact h
  cases hx with
  | sl b sz off len cap e hA _ _ _ =>
    split at h <;> try (cases h; done)
    rename_i blk hb
    rw [hG _ _ hA hb]
    exact h
theorem aappend_local {t : TypeId} {s x z : AV} {u v : Value} (h : aappend P t s x H = some (z, H')) (hs : RV w F A m s u) (hx : RV w F A m x v) : Loc A H H' (aappend P t s x) z := by
  intro G hn0 hG
  have hnx := aappend_next h
  obtain ⟨hn, hg0, hh0⟩ := hn0.resolve_left (by omega)
  clear hn0 hnx
  unfold aappend aappendR at h
  split at h <;> try (cases h; done)
  rename_i _ k hk
  split at h <;> try (cases h; done)
  rename_i new fl hrows
  split at h <;> try (cases h; done)
  rename_i hby
  have hrow' := rowsOf_local (G := G) hrows hx hG
  split at h
  · split at h <;> try (cases h; done)
    rename_i hlen
    split at h
    · rename_i hnew
      simp only [Option.some.injEq, Prod.mk.injEq] at h
      obtain ⟨rfl, rfl⟩ := h
      refine ⟨{ next := G.next + 1, get := G.get }, fun b => b = H.next, (by unfold aappend aappendR; rw [hk]; dsimp only; rw [hrow']; dsimp only; rw [if_pos hby]; rw [if_pos hlen, if_pos hnew]), fun b hb => .inr ⟨hb, rfl⟩, fun b hb => ?_, fun b _ => ⟨rfl, rfl⟩, .inr ⟨rfl, rfl, rfl⟩⟩
      have hb : b = H.next := hb
      subst hb
      simp [hg0, hh0]
    · rename_i hnew
      simp only [Option.some.injEq, Prod.mk.injEq] at h
      obtain ⟨rfl, rfl⟩ := h
      refine ⟨G.push { e := k.e, sz := k.size, flat := fl, rows := new }, fun b => b = H.next, (by unfold aappend aappendR; rw [hk]; dsimp only; rw [hrow']; dsimp only; rw [if_pos hby]; rw [if_pos hlen, if_neg hnew, hn]), fun b hb => .inr ⟨hb, rfl⟩, fun b hb => ?_, fun b hb => ?_, .inr ⟨rfl, rfl, rfl⟩⟩
      · have hb : b = H.next := hb
        subst hb; simp [AHeap.push, hn]
      · have hb : b ≠ H.next := hb
        simp [AHeap.push, hn, hb]
  · rename_i _ b sz len
    split at h <;> try (cases h; done)
    rename_i blk hb
    split at h <;> try (cases h; done)
    rename_i hc
    simp only [Option.some.injEq, Prod.mk.injEq] at h
    obtain ⟨rfl, rfl⟩ := h
    cases hs with
    | sl _ _ _ _ cap e hA _ _ _ =>
      refine ⟨(G.set b none).push { e := k.e, sz, flat := blk.flat && fl, rows := blk.rows ++ new }, fun b' => b' = b ∨ b' = H.next, (by unfold aappend aappendR; rw [hk]; dsimp only; rw [hrow']; dsimp only; rw [if_pos hby]; simp only [hG b blk hA hb]; rw [if_pos hc, hn]), fun b' hb' => ?_, fun b' hb' => ?_, fun b' hb' => ?_, .inr ⟨rfl, rfl, .inr rfl⟩⟩
      · rcases hb' with hb' | hb'
        · subst hb'; exact .inl ⟨hA, blk, hb⟩
        · exact .inr ⟨hb', rfl⟩
      · rcases hb' with hb' | hb'
        · subst hb'; simp [AHeap.push, AHeap.set, hn]
        · subst hb'; simp [AHeap.push, AHeap.set, hn]
      · have hb' : ¬ (b' = b ∨ b' = H.next) := hb'
        simp only [not_or] at hb'
        simp [AHeap.push, AHeap.set, hn, hb'.1, hb'.2]
  · cases h
theorem aload_local {t : TypeId} {p : AV} (h : ∀ b sz i j, p = .ptr b sz i j → G.get b = H.get b) : aload P t p G = aload P t p H := by
  cases p <;> first | rfl | skip
  rename_i b sz i j
  unfold aload aloadR
  dsimp only
  rw [h b sz i j rfl]
theorem aappendZ_local {t t' : TypeId} {s x z : AV} (h : aappendZ P t t' s x H = some (z, H')) (A : Nat → Prop) : Loc A H H' (aappendZ P t t' s x) z := by
  intro G hn0 hG
  have hnx := aappendZ_next h
  obtain ⟨hn, hg0, hh0⟩ := hn0.resolve_left (by omega)
  clear hn0 hnx
  unfold aappendZ aappendZR at h
  split at h <;> try (cases h; done)
  rename_i _ _ _ _ k n hii hk
  split at h <;> try (cases h; done)
  rename_i hok
  simp only [Option.some.injEq, Prod.mk.injEq] at h
  obtain ⟨rfl, rfl⟩ := h
  refine ⟨G.push { e := k.e, sz := k.size, flat := true, rows := [] }, fun b => b = H.next, (by unfold aappendZ aappendZR; rw [hk, hii]; dsimp only; rw [if_pos hok, hn]), fun b hb => .inr ⟨hb, rfl⟩, fun b hb => ?_, fun b hb => ?_, .inr ⟨rfl, rfl, rfl⟩⟩
  · have hb : b = H.next := hb
    subst hb; simp [AHeap.push, hn]
  · have hb : b ≠ H.next := hb
    simp [AHeap.push, hn, hb]
theorem aop_loc {fr : AFr} {a : Act} {o : Op} {z : AV} (h : aop P C fr.eval H o = some (z, H')) (hc : clsOf C o = .al ∨ clsOf C o = .w ∨ clsOf C o = .wa) (hf : RF w F A m fr a.tmps) :
    Loc A H H' (fun G => aop P C fr.eval G o) z := by
  cases o
  case alloc e => exact aalloc_local h A
  case box e x => exact abox_local h A
  case buildSlice t n parts => exact abuildSlice_local h A
  case makeSlice t l c => exact amake_local h A
  case store t x y =>
    simp only [aop] at h ⊢
    unfold liftS at h
    split at h <;> try (cases h; done)
    rename_i H1 hs
    simp only [Option.some.injEq, Prod.mk.injEq] at h
    obtain ⟨rfl, rfl⟩ := h
    exact astore_local hs (hf.eval x)
  case call c =>
    obtain ⟨callee, args, argTypes⟩ := c
    simp only [aop, acallOp] at h ⊢
    cases callee with
    | invoke r n => simp [clsOf] at hc
    | builtin b =>
      by_cases hb : b = .append
      · subst hb
        dsimp only at h ⊢
        split at h <;> try (cases h; done)
        rename_i s x t t' ha ht
        split at h
        · rename_i htt
          subst htt
          simp only [if_pos]
          exact aappend_local h (hf.eval s) (hf.eval x)
        · rename_i htt
          simp only [if_neg htt]
          exact aappendZ_local h A
      · cases b <;> first | exact absurd rfl hb | (simp [clsOf] at hc)
    | value f =>
      cases f with
      | func g =>
        have hsp : ∃ keep spec, C g = some (.pure keep spec) := by
          cases hg : C g with
          | none => simp [clsOf, hg] at hc
          | some k => cases k with
            | pure keep spec => exact ⟨keep, spec, rfl⟩
            | ref fz spec => simp [clsOf, hg] at hc
            | iter spec => simp [clsOf, hg] at hc
            | gen start next => simp [clsOf, hg] at hc
        obtain ⟨keep, spec, hsp⟩ := hsp
        simp only [acallClo, AFr.eval, hsp, List.nil_append, List.append_nil] at h ⊢
        unfold acallR at h ⊢
        cases ht : tysOf P argTypes.toList with
        | none => simp [ht] at h
        | some l =>
          simp only [ht] at h ⊢
          refine callP_local (w := w) (F := F) (m := m) (vs := args.toList.map a.eval) h ⟨by simp, fun i x y h1 h2 => ?_⟩
          simp only [List.getElem?_map, Option.map_eq_some_iff] at h1 h2
          obtain ⟨p0, e1, rfl⟩ := h1
          obtain ⟨p1, e2, rfl⟩ := h2
          rw [e1] at e2
          simp only [Option.some.injEq] at e2
          subst e2
          exact hf.eval _
      | tmp t => simp [clsOf] at hc
      | const v => simp [clsOf] at hc
      | global g => simp [clsOf] at hc
  all_goals simp [clsOf] at hc
theorem aop_same {ρ : Operand → AV} {o : Op} {z : AV} (h : aop P C ρ H o = some (z, H')) (hc : clsOf C o = .p) : H' = H ∧ ∀ G, aop P C ρ G o = some (z, G) := by
  have key : ∀ {x : Option AV}, lift x H = some (z, H') → H' = H ∧ ∀ G, lift x G = some (z, G) := by
    intro x h
    unfold lift at h
    split at h <;> try (cases h; done)
    simp only [Option.some.injEq, Prod.mk.injEq] at h
    obtain ⟨rfl, rfl⟩ := h
    exact ⟨rfl, fun G => rfl⟩
  cases o
  case call c =>
    obtain ⟨callee, args, argTypes⟩ := c
    simp only [aop, acallOp] at h ⊢
    cases callee with
    | invoke r n => simp [clsOf] at hc
    | builtin b => cases b <;> first | exact key h | (simp [clsOf] at hc)
    | value f =>
      cases f with
      | func g =>
        exfalso
        cases hg : C g with
        | none => simp [clsOf, hg] at hc
        | some k => cases k <;> simp [clsOf, hg] at hc
      | _ => simp [clsOf] at hc
  all_goals first
    | (simp [clsOf] at hc; done)
    | (simp only [aop] at h ⊢; exact key h)
theorem callP_sound {f : FuncId} {keep : Bool} {spec : List AV → Option AV} {l : List (List (Option Nat))} {args : List AV} {vs : Array Value} {z : AV} (h : callP keep spec l args H = some (z, H')) (hc : Sound P f (.pure keep spec))
    (I : Inv w F A m H) (ha : RLs w F A m args vs) :
    Callable P f ∧ Calls P f vs w fun e w' => ∃ v F' m', e = .returned v ∧ Inv w' F' A m' H' ∧ RV w' F' A m' z v ∧ Evo w F A m H w' F' A m' H' := by
  obtain ⟨hcl, hs⟩ := hc
  refine ⟨hcl, ?_⟩
  unfold callP at h
  split at h <;> try (cases h; done)
  rename_i args' S hfr
  split at h <;> try (cases h; done)
  rename_i r hr
  split at h <;> try (cases h; done)
  rename_i hcd
  obtain ⟨q1, q2⟩ := frzArgs_sound I l args args' S vs.toList hfr ha
  refine (hs args' r hr w (less F m S) vs (fun cb h => I.bound cb h.1) q1).mono ?_
  rintro e w' ⟨v, rfl, hb, hv⟩
  split at h
  · rename_i hcase
    simp only [Option.some.injEq, Prod.mk.injEq] at h
    obtain ⟨rfl, rfl⟩ := h
    refine ⟨v, F, m, rfl, inv_below I hb, ?_, evo_below hb⟩
    rcases hcase with rfl | hns | rfl
    · have : less F m [] = F := by funext cb; simp [less]
      rw [this] at hv
      exact (hv.mono (F' := F) (Nat.le_refl _) (fun _ _ => rfl) (fun _ _ _ => rfl) (fun _ _ h => .inl h) (fun _ h => ⟨h, rfl⟩)).closed_any hcd
    · exact hv.noSl_any hns
    · exact (hv.mono (F' := F) (Nat.le_refl _) (fun _ _ => rfl) (fun _ _ _ => rfl) (fun cb _ h => .inr ⟨rfl, I.bound cb h⟩) (fun _ h => ⟨h, rfl⟩)).closed_any hcd
  · simp only [Option.some.injEq, Prod.mk.injEq] at h
    obtain ⟨rfl, rfl⟩ := h
    obtain ⟨I1, E1⟩ := killAll_sound I q2
    exact ⟨v, less F m S, m, rfl, inv_below I1 hb, (hv.mono (F' := less F m S) (Nat.le_refl _) (fun _ _ => rfl) (fun _ _ _ => rfl) (fun _ _ h => .inl h) (fun _ h => ⟨h, rfl⟩)).closed_any hcd, E1.trans (evo_below hb)⟩
theorem aop_any (hC : Tab.Sound P C) {fr : AFr} {a : Act} {o : Oper} {z : AV} (h : aop P C fr.eval H o.op = some (z, H')) (hg : clsOf C o.op ≠ .g) (I : Inv w F A m H) (hn : ¬ A H.next) (hf : RF w F A m fr a.tmps)
    {next : Act → World → Prop} {Q : Exit → Act → World → Prop}
    (hk : ∀ r w' F' m' A', Inv w' F' A' m' H' → RV w' F' A' m' z r → Evo w F A m H w' F' A' m' H' → ((A' = A ∧ H'.next = H.next) ∨ (A' = withB A H.next ∧ H'.next = H.next + 1)) → next (a.put o.dst r) w') : o.wp P a w next Q := by
  by_cases hc : ∀ c, o.op = .call c → ∀ f, c.callee ≠ .value f
  · obtain ⟨n, r, w', A', hr, ⟨F', m', h1, h2, h3⟩, hA⟩ := aop_alone h hc I hn hf
    have hA' : (A' = A ∧ H'.next = H.next) ∨ (A' = withB A H.next ∧ H'.next = H.next + 1) := hA.imp (fun h => h.2) (fun h => h.2)
    unfold Oper.wp
    rcases hr with hr | ⟨hr, rfl⟩
    · rw [hr]; exact hk r w' F' m' A' h1 h2 h3 hA'
    · rw [hr]; exact hk undef w' F' m' A' h1 h2 h3 hA'
  · obtain ⟨dst, op, type, pos, after, guard⟩ := o
    obtain ⟨c, hc⟩ := Classical.not_forall.1 hc
    obtain ⟨hcc, hc⟩ := Classical.not_forall.1 hc
    obtain ⟨f, hc⟩ := Classical.not_forall.1 hc
    have hcf := Classical.not_not.1 hc
    simp only at hcc
    subst hcc
    obtain ⟨callee, args, argTypes⟩ := c
    simp only at hcf
    subst hcf
    cases f with
    | func g =>
      have hsp : ∃ keep spec, C g = some (.pure keep spec) := by
        cases hg' : C g with
        | none => simp [clsOf, hg'] at hg
        | some k => cases k with
          | pure keep spec => exact ⟨keep, spec, rfl⟩
          | ref fz spec => simp [clsOf, hg'] at hg
          | iter spec => simp [clsOf, hg'] at hg
          | gen start next => simp [clsOf, hg'] at hg
      obtain ⟨keep, spec, hsp⟩ := hsp
      simp only [aop, acallOp, acallClo, AFr.eval, hsp, List.nil_append, List.append_nil] at h
      unfold acallR at h
      cases ht : tysOf P argTypes.toList with
      | none => simp [ht] at h
      | some l =>
        simp only [ht] at h
        have hargs : RLs w F A m (args.toList.map fr.eval) (args.map a.eval) := by
          refine ⟨by simp, fun i x y h1 h2 => ?_⟩
          simp only [Array.toList_map, List.getElem?_map, Option.map_eq_some_iff] at h1 h2
          obtain ⟨p0, e1, rfl⟩ := h1
          obtain ⟨p1, e2, rfl⟩ := h2
          rw [e1] at e2
          simp only [Option.some.injEq] at e2
          subst e2
          exact hf.eval _
        obtain ⟨hcl, hcalls⟩ := callP_sound h (hC g _ hsp) I hargs
        have hrun : (execOp a.eval { dst, op := .call { callee := .value (.func g), args, argTypes }, type, pos, after, guard }).run P w = .ok (.enter g (args.map a.eval)) w := by
          have := hcl (#[] ++ (args.map a.eval ++ #[])) w
          simpa [execOp, resolve, Deferred.ofValue, Act.eval, invoke] using this
        unfold Oper.wp
        rw [hrun]
        refine Calls.mono hcalls ?_
        rintro e w' ⟨v, F', m', rfl, p1, p2, p3⟩
        have hnx : H'.next = H.next := by
          unfold callP at h
          repeat' split at h
          all_goals first | (cases h; done) | (simp only [Option.some.injEq, Prod.mk.injEq] at h; rw [← h.2]; rfl) | (simp only [Option.some.injEq, Prod.mk.injEq] at h; rw [← h.2])
        exact hk v w' F' m' A p1 p2 p3 (.inl ⟨rfl, hnx⟩)
    | _ => simp [clsOf] at hg
end
end Go.Abs
end
section
set_option linter.unusedSimpArgs false
set_option linter.unusedVariables false
namespace Go.Abs
theorem withChk_some {α : Type} {r : α} : ∀ {ps : List Prop} {x : Option α}, withChk ps x = some r → (∀ p, p ∈ ps → p) ∧ x = some r
  | [], x, h => ⟨by simp, h⟩
  | p :: ps, x, h => by
    unfold withChk at h
    split at h <;> try (cases h; done)
    rename_i hp
    obtain ⟨h1, h2⟩ := withChk_some h
    exact ⟨fun q hq => (List.mem_cons.1 hq).elim (fun e => e ▸ hp) (h1 q), h2⟩
def Bf (ops : Array Oper) (i j : Nat) : Prop := ((Region.before ops).getD j 0).testBit i = true
theorem rowOk_spec {C : Tab} {ops : Array Oper} {B : Nat} {y : Oper} : ∀ (xs : List Oper) (i0 : Nat), rowOk C ops B y i0 xs = true → ∀ k x, xs[k]? = some x → B.testBit (i0 + k) = true ∨ pairOk C ops x y = true
  | [], _, _, k, x, hk => by simp at hk
  | z :: zs, i0, h, k, x, hk => by
    simp only [rowOk, Bool.and_eq_true, Bool.or_eq_true] at h
    cases k with
    | zero => simp at hk; subst hk; exact h.1
    | succ k =>
      have := rowOk_spec zs (i0 + 1) h.2 k x (by simpa using hk)
      rwa [show i0 + 1 + k = i0 + (k + 1) by omega] at this
theorem bitOk_spec {Bs : Array Nat} {j : Nat} {y : Oper} : ∀ (xs : List Oper) (i0 : Nat), bitOk Bs j y i0 xs = true → ∀ k, k < xs.length → (Bs.getD j 0).testBit (i0 + k) = true →
    i0 + k < j ∧ ∃ e, e ∈ y.after.toList ∧ Region.binds .any e = true ∧ (e.on = i0 + k ∨ (Bs.getD e.on 0).testBit (i0 + k) = true)
  | [], _, _, k, hk, _ => by simp at hk
  | z :: zs, i0, h, k, hk, hb => by
    simp only [bitOk, Bool.and_eq_true, Bool.or_eq_true] at h
    cases k with
    | zero =>
      rcases h.1 with h1 | h1
      · rw [Nat.add_zero] at hb; rw [hb] at h1; simp at h1
      · refine ⟨by simpa using h1.1, ?_⟩
        obtain ⟨e, he, h2⟩ := List.any_eq_true.1 h1.2
        simp only [Bool.and_eq_true, Bool.or_eq_true, beq_iff_eq] at h2
        exact ⟨e, he, h2.1, h2.2⟩
    | succ k =>
      have := bitOk_spec zs (i0 + 1) h.2 k (by simpa using hk) (by rwa [show i0 + 1 + k = i0 + (k + 1) by omega])
      rwa [show i0 + 1 + k = i0 + (k + 1) by omega] at this
theorem regGo_spec {C : Tab} {ops : Array Oper} {Bs : Array Nat} : ∀ (ys : List Oper) (j0 : Nat), regGo C ops Bs j0 ys = true → ∀ k y, ys[k]? = some y →
    rowOk C ops (Bs.getD (j0 + k) 0) y 0 (ops.toList.take (j0 + k)) = true ∧ bitOk Bs (j0 + k) y 0 ops.toList = true ∧ ∀ e, e ∈ y.after.toList → Region.binds .any e = true → e.on < j0 + k
  | [], _, _, k, y, hk => by simp at hk
  | z :: zs, j0, h, k, y, hk => by
    simp only [regGo, Bool.and_eq_true] at h
    cases k with
    | zero =>
      simp at hk; subst hk
      refine ⟨h.1.1.1.1, h.1.1.1.2, fun e he hb => ?_⟩
      have := List.all_eq_true.1 h.1.1.2 e he
      simp only [Bool.or_eq_true, Bool.not_eq_true', decide_eq_true_eq] at this
      rcases this with h | h
      · rw [hb] at h; cases h
      · exact h
    | succ k =>
      have := regGo_spec zs (j0 + 1) h.2 k y (by simpa using hk)
      rwa [show j0 + 1 + k = j0 + (k + 1) by omega] at this
section
variable {C : Tab} {ops : Array Oper}
theorem reg_lt (h : regOk C ops = true) {i j : Nat} {o o' : Oper} (hi : ops[i]? = some o) (hj : ops[j]? = some o') (hb : Bf ops i j) : i < j := by
  obtain ⟨_, h2, _⟩ := regGo_spec _ 0 h j o' (by simpa using hj)
  have hlt : i < ops.toList.length := by simpa using (Array.getElem?_eq_some_iff.1 hi).1
  have := (bitOk_spec _ 0 h2 i hlt (by simpa [Bf] using hb)).1
  omega
theorem reg_via (h : regOk C ops = true) {i j : Nat} {o o' : Oper} (hi : ops[i]? = some o) (hj : ops[j]? = some o') (hb : Bf ops i j) :
    ∃ e, e ∈ o'.after.toList ∧ Region.binds .any e = true ∧ (e.on = i ∨ Bf ops i e.on) := by
  obtain ⟨_, h2, _⟩ := regGo_spec _ 0 h j o' (by simpa using hj)
  have hlt : i < ops.toList.length := by simpa using (Array.getElem?_eq_some_iff.1 hi).1
  have := (bitOk_spec _ 0 h2 i hlt (by simpa [Bf] using hb)).2
  simpa [Bf] using this
theorem reg_edge (h : regOk C ops = true) {j : Nat} {o : Oper} (hj : ops[j]? = some o) {e : Edge} (he : e ∈ o.after.toList) (hb : Region.binds .any e = true) : e.on < j := by
  obtain ⟨_, _, h3⟩ := regGo_spec _ 0 h j o (by simpa using hj)
  simpa using h3 e he hb
theorem reg_pair (h : regOk C ops = true) {i j : Nat} {o o' : Oper} (hi : ops[i]? = some o) (hj : ops[j]? = some o') (hij : i < j) : Bf ops i j ∨ pairOk C ops o o' = true := by
  obtain ⟨h1, _, _⟩ := regGo_spec _ 0 h j o' (by simpa using hj)
  have := rowOk_spec _ 0 h1 i o (by rw [List.getElem?_take]; simp [hij, hi])
  simpa [Bf] using this
theorem pairsOf_mem {Bs : Array Nat} {j : Nat} : ∀ (xs : List Oper) (i0 k : Nat) (x : Oper), xs[k]? = some x → (Bs.getD j 0).testBit (i0 + k) = false → (Bs.getD (i0 + k) 0).testBit j = false → (clsOf C x.op).isW = true →
    (j, i0 + k) ∈ pairsOf C Bs j i0 xs
  | [], _, k, x, hk, _, _, _ => by simp at hk
  | z :: zs, i0, k, x, hk, h1, h2, h3 => by
    cases k with
    | zero =>
      simp at hk; subst hk
      unfold pairsOf
      rw [Nat.add_zero] at h1 h2
      rw [h1, h2, h3]
      simp
    | succ k =>
      have := pairsOf_mem zs (i0 + 1) k x (by simpa using hk) (by rwa [show i0 + 1 + k = i0 + (k + 1) by omega]) (by rwa [show i0 + 1 + k = i0 + (k + 1) by omega]) h3
      rw [show i0 + 1 + k = i0 + (k + 1) by omega] at this
      unfold pairsOf
      repeat' split
      all_goals first | exact this | exact List.mem_cons_of_mem _ this
theorem lwGo_mem {Bs : Array Nat} : ∀ (ys : List Oper) (j0 k : Nat) (y : Oper) (i : Nat) (x : Oper), ys[k]? = some y → clsOf C y.op = .l → ops[i]? = some x → (Bs.getD (j0 + k) 0).testBit i = false → (Bs.getD i 0).testBit (j0 + k) = false →
    (clsOf C x.op).isW = true → (j0 + k, i) ∈ lwGo C ops Bs j0 ys
  | [], _, k, y, _, _, hk, _, _, _, _, _ => by simp at hk
  | z :: zs, j0, k, y, i, x, hk, hy, hx, h1, h2, h3 => by
    unfold lwGo
    cases k with
    | zero =>
      simp at hk; subst hk
      rw [hy]
      refine List.mem_append_left _ ?_
      have := pairsOf_mem (C := C) (Bs := Bs) (j := j0) ops.toList 0 i x (by simpa using hx) (by simpa using h1) (by simpa using h2) h3
      simpa using this
    | succ k =>
      refine List.mem_append_right _ ?_
      have := lwGo_mem zs (j0 + 1) k y i x (by simpa using hk) hy hx (by rwa [show j0 + 1 + k = j0 + (k + 1) by omega]) (by rwa [show j0 + 1 + k = j0 + (k + 1) by omega]) h3
      rwa [show j0 + 1 + k = j0 + (k + 1) by omega] at this
theorem lw_mem {i j : Nat} {x y : Oper} (hj : ops[j]? = some y) (hi : ops[i]? = some x) (hy : clsOf C y.op = .l) (hx : (clsOf C x.op).isW = true) (h1 : ¬ Bf ops i j) (h2 : ¬ Bf ops j i) : (j, i) ∈ lwPairs C ops := by
  have := lwGo_mem (C := C) (ops := ops) (Bs := Region.before ops) ops.toList 0 j y i x (by simpa using hj) hy hi (by simpa [Bf] using h1) (by simpa [Bf] using h2) hx
  simpa [lwPairs] using this
end
theorem gaOf_mem {C : Tab} {Bs : Array Nat} {j : Nat} : ∀ (xs : List Oper) (i0 k : Nat) (x : Oper), xs[k]? = some x → j < i0 + k → clsOf C x.op = .al → (Bs.getD j 0).testBit (i0 + k) = false → (Bs.getD (i0 + k) 0).testBit j = false → gaOf C Bs j i0 xs = true
  | [], _, k, x, hk, _, _, _, _ => by simp at hk
  | z :: zs, i0, k, x, hk, hj, hx, h1, h2 => by
    unfold gaOf
    cases k with
    | zero =>
      simp at hk; subst hk
      rw [Nat.add_zero] at hj h1 h2
      rw [hx, h1, h2]
      simp [hj]
    | succ k =>
      have e : i0 + 1 + k = i0 + (k + 1) := by omega
      have := gaOf_mem (C := C) (Bs := Bs) (j := j) zs (i0 + 1) k x (by simpa using hk) (by omega) hx (by rwa [e]) (by rwa [e])
      rw [this, Bool.or_true]
theorem gaGo_mem {C : Tab} {ops : Array Oper} {Bs : Array Nat} : ∀ (ys : List Oper) (j0 k : Nat) (y : Oper), ys[k]? = some y → clsOf C y.op = .g → gaOf C Bs (j0 + k) 0 ops.toList = true → j0 + k ∈ gaGo C ops Bs j0 ys
  | [], _, k, y, hk, _, _ => by simp at hk
  | z :: zs, j0, k, y, hk, hy, h => by
    unfold gaGo
    cases k with
    | zero =>
      simp at hk; subst hk
      rw [Nat.add_zero] at h ⊢
      rw [hy]
      refine List.mem_append_left _ ?_
      simp [h]
    | succ k =>
      have e : j0 + 1 + k = j0 + (k + 1) := by omega
      refine List.mem_append_right _ ?_
      have := gaGo_mem (C := C) (ops := ops) (Bs := Bs) zs (j0 + 1) k y (by simpa using hk) hy (by rwa [e])
      rwa [e] at this
theorem ga_mem {C : Tab} {ops : Array Oper} {i j : Nat} {x y : Oper} (hi : ops[i]? = some x) (hj : ops[j]? = some y) (hx : clsOf C x.op = .g) (hy : clsOf C y.op = .al) (hij : i < j) (h1 : ¬ Bf ops i j) (h2 : ¬ Bf ops j i) : i ∈ gaList C ops := by
  have := gaGo_mem (C := C) (ops := ops) (Bs := Region.before ops) ops.toList 0 i x (by simpa using hi) hx (gaOf_mem ops.toList 0 j y (by simpa using hj) (by omega) hy (by simpa [Bf] using h2) (by simpa [Bf] using h1))
  simpa [gaList] using this
section
variable {P : Program} {C : Tab} {ops : Array Oper} {l : List Nat}
theorem adrawGo_tr : ∀ (rest : List Oper) (fr : AFr) (H : AHeap) (hist : List (AFr × AHeap)) (r : AFr × AHeap), adrawGo P C ops l rest fr H hist = some r →
    ∃ more : List (AFr × AHeap), more.length = rest.length ∧ ((∀ q, q ∈ lwPairs C ops → chk P ops (hist.reverse ++ (fr, H) :: more) q) ∧ ∀ q, q ∈ gaList C ops → chkS ops (hist.reverse ++ (fr, H) :: more) q) ∧
      (∃ frn, (hist.reverse ++ (fr, H) :: more)[hist.length + rest.length]? = some (frn, r.2) ∧ r.1 = frn.only l) ∧
      ∀ j o, rest[j]? = some o → ∃ frj Hj z H1, (hist.reverse ++ (fr, H) :: more)[hist.length + j]? = some (frj, Hj) ∧ dstep P C ops frj Hj o = some (z, H1) ∧ (hist.reverse ++ (fr, H) :: more)[hist.length + j + 1]? = some (frj.put o.dst z, H1)
  | [], fr, H, hist, r, h => by
    simp only [adrawGo] at h
    obtain ⟨h1, h2⟩ := withChk_some h
    simp only [Option.some.injEq] at h2
    subst h2
    refine ⟨[], rfl, ⟨fun q hq => ?_, fun q hq => ?_⟩, ⟨fr, ?_, rfl⟩, fun j o hj => by simp at hj⟩
    · have := h1 _ (List.mem_append_left _ (List.mem_map_of_mem hq))
      simpa using this
    · have := h1 _ (List.mem_append_right _ (List.mem_map_of_mem hq))
      simpa using this
    · rw [List.getElem?_append_right (by simp)]
      simp
  | o :: rest, fr, H, hist, r, h => by
    simp only [adrawGo, op] at h
    split at h <;> try (cases h; done)
    rename_i v H' hs
    obtain ⟨more, h1, h2, ⟨frn, h3, h3'⟩, h4⟩ := adrawGo_tr rest _ _ _ r h
    have e : ((fr, H) :: hist).reverse ++ (fr.put o.dst v, H') :: more = hist.reverse ++ (fr, H) :: (fr.put o.dst v, H') :: more := by simp
    rw [e] at h2 h3 h4
    refine ⟨(fr.put o.dst v, H') :: more, by simp [h1], h2, ⟨frn, ?_, h3'⟩, fun j o' hj => ?_⟩
    · rw [← h3]; congr 1; simp; omega
    · cases j with
      | zero =>
        simp at hj; subst hj
        refine ⟨fr, H, v, H', ?_, hs, ?_⟩
        · rw [List.getElem?_append_right (by simp)]; simp
        · rw [List.getElem?_append_right (by simp)]; simp
      | succ j =>
        obtain ⟨frj, Hj, z, H1, q1, q2, q3⟩ := h4 j o' (by simpa using hj)
        refine ⟨frj, Hj, z, H1, ?_, q2, ?_⟩
        · rw [← q1]; congr 1; simp; omega
        · rw [← q3]; congr 1; simp; omega
structure Run (P : Program) (C : Tab) (ops : Array Oper) (frs : Nat → AFr) (hs : Nat → AHeap) : Prop where
  reg : regOk C ops = true
  step : ∀ i o, ops[i]? = some o → ∃ z, dstep P C ops (frs i) (hs i) o = some (z, hs (i + 1)) ∧ frs (i + 1) = (frs i).put o.dst z
  chk : ∀ i k o o' t a, ops[i]? = some o → ops[k]? = some o' → o.op = .load t a → (clsOf C o'.op).isW = true → ¬ Bf ops k i → ¬ Bf ops i k → aload P t ((frs i).eval a) (hs k) = aload P t ((frs i).eval a) (hs (k + 1))
  wf0 : ∀ b x, (hs 0).get b = some x → b < (hs 0).next
  scp : ∀ i j o o', ops[i]? = some o → ops[j]? = some o' → clsOf C o.op = .g → clsOf C o'.op = .al → i < j → ¬ Bf ops i j → ¬ Bf ops j i → Scope (o.op.operands.toList.map (frs i).eval) (hs i)
theorem adraw_run {fr : AFr} {H : AHeap} {r : AFr × AHeap} (h : adraw P C ops l fr H = some r) (hwf : ∀ b x, H.get b = some x → b < H.next) :
    ∃ frs hs, Run P C ops frs hs ∧ frs 0 = fr ∧ hs 0 = H ∧ r.1 = (frs ops.size).only l ∧ r.2 = hs ops.size := by
  unfold adraw at h
  split at h <;> try (cases h; done)
  rename_i hreg
  obtain ⟨more, h1, h2, ⟨frn, h3, h3'⟩, h4⟩ := adrawGo_tr ops.toList fr H [] r h
  simp only [List.reverse_nil, List.nil_append, List.length_nil, Nat.zero_add] at h2 h3 h4
  have h0 : ((fr, H) :: more)[0]? = some (fr, H) := rfl
  generalize htr : (fr, H) :: more = tr at h2 h3 h4 h0
  refine ⟨fun i => ((tr[i]?).getD (fr, H)).1, fun i => ((tr[i]?).getD (fr, H)).2, ⟨hreg, fun i o hi => ?_, fun i k o o' t a hi hk ho hw b1 b2 => ?_, ?_, fun i j o o' hi hj hg hal hij b1 b2 => ?_⟩, by simp [h0], by simp [h0], ?_, ?_⟩
  · obtain ⟨frj, Hj, z, H1, q1, q2, q3⟩ := h4 i o (by simpa using hi)
    refine ⟨z, ?_, ?_⟩
    · simp only [q1, q3, Option.getD_some]; exact q2
    · simp only [q1, q3, Option.getD_some]
  · have := h2.1 _ (lw_mem (C := C) hi hk (by rw [ho]; rfl) hw b1 b2)
    unfold Abs.chk at this
    simp only [hi, ho, Option.map_some] at this
    split at this <;> try (exact this.elim)
    rename_i ht p1 p2 p3
    simp only [Option.some.injEq, Op.load.injEq] at ht
    obtain ⟨rfl, rfl⟩ := ht
    simpa [p1, p2, p3] using this
  · simpa [h0] using hwf
  · have := h2.2 _ (ga_mem (C := C) hi hj hg hal hij b1 b2)
    unfold chkS at this
    simp only [hi] at this
    split at this <;> try (exact this.elim)
    rename_i ho p1
    simp only [Option.some.injEq] at ho
    subst ho
    simpa [p1] using this
  · simp only [Array.length_toList] at h3
    simp [h3, h3']
  · simp only [Array.length_toList] at h3
    simp [h3]
end
end Go.Abs
end
section
set_option linter.unusedSimpArgs false
set_option linter.unusedVariables false
namespace Go.Abs
def AHeap.WF (H : AHeap) : Prop := ∀ b x, H.get b = some x → b < H.next
structure Shape (c : Cls) (H H' : AHeap) : Prop where
  next : H.next ≤ H'.next
  wf : H'.WF
  same : c.isW = false → ∀ b, b < H.next → H'.get b = H.get b
  none : c.isAl = false → H'.next = H.next
section
variable {P : Program} {C : Tab} {H H' : AHeap}
theorem Shape.refl {c : Cls} (h : H.WF) : Shape c H H := ⟨Nat.le_refl _, h, fun _ _ _ => rfl, fun _ => rfl⟩
theorem shape_push {c : Cls} {x : Blk} (h : H.WF) (hc : c.isAl = true) : Shape c H (H.push x) := by
  refine ⟨by simp [AHeap.push], fun b y hb => ?_, fun _ b hb => ?_, fun h => by rw [hc] at h; cases h⟩
  · rw [AHeap.get_push] at hb
    rw [AHeap.next_push]
    split at hb
    · omega
    · have := h b y hb; omega
  · rw [AHeap.get_push, if_neg (by omega)]
theorem shape_set {c : Cls} {b : Nat} {x : Option Blk} {y : Blk} (h : H.WF) (hb : H.get b = some y) (hc : c.isW = true) : Shape c H (H.set b x) := by
  refine ⟨Nat.le_refl _, fun b' y' hb' => ?_, (fun h => by rw [hc] at h; cases h), fun _ => rfl⟩
  rw [AHeap.get_set] at hb'
  rw [AHeap.next_set]
  split at hb'
  · rename_i e; subst e; exact h _ _ hb
  · exact h b' y' hb'
theorem abox_shape {c : Cls} {e : TypeId} {x z : AV} (h : abox e x H = some (z, H')) (hw : H.WF) (hc : c.isAl = true) : Shape c H H' := by
  unfold abox at h
  repeat' split at h
  all_goals first | (cases h; done) | skip
  simp only [Option.some.injEq, Prod.mk.injEq] at h
  rw [← h.2]; exact shape_push hw hc
theorem callP_shape {c : Cls} {keep : Bool} {spec : List AV → Option AV} {l : List (List (Option Nat))} {args : List AV} {z : AV} (h : callP keep spec l args H = some (z, H')) (hw : H.WF) (hc : c.isW = true) : Shape c H H' := by
  unfold callP at h
  repeat' split at h
  all_goals first | (cases h; done) | skip
  · simp only [Option.some.injEq, Prod.mk.injEq] at h
    rw [← h.2]; exact .refl hw
  · simp only [Option.some.injEq, Prod.mk.injEq] at h
    rw [← h.2]
    refine ⟨Nat.le_refl _, fun b' y' hb' => ?_, (fun h => by rw [hc] at h; cases h), fun _ => rfl⟩
    simp only [AHeap.killAll] at hb'
    split at hb'
    · cases hb'
    · exact hw b' y' hb'
theorem aappend_shape {c : Cls} {t : TypeId} {s x z : AV} (h : aappend P t s x H = some (z, H')) (hw : H.WF) (hc : c.isW = true) (hc' : c.isAl = true) : Shape c H H' := by
  unfold aappend aappendR at h
  repeat' split at h
  all_goals first | (cases h; done) | skip
  all_goals
    simp only [Option.some.injEq, Prod.mk.injEq] at h
    rw [← h.2]
  · exact ⟨Nat.le_succ _, fun b y hb => Nat.lt_succ_of_lt (hw b y hb), fun _ _ _ => rfl, fun h => by rw [hc'] at h; cases h⟩
  · exact shape_push hw hc'
  · rename_i hb _
    have h1 := shape_set (x := none) hw hb hc
    exact ⟨by simp [AHeap.push, AHeap.set], (shape_push (c := c) h1.wf hc').wf, (fun h => by rw [hc] at h; cases h), fun h => by rw [hc'] at h; cases h⟩
theorem aappendZ_shape {c : Cls} {t t' : TypeId} {s x z : AV} (h : aappendZ P t t' s x H = some (z, H')) (hw : H.WF) (hc : c.isW = true) (hc' : c.isAl = true) : Shape c H H' := by
  unfold aappendZ aappendZR at h
  repeat' split at h
  all_goals first | (cases h; done) | skip
  simp only [Option.some.injEq, Prod.mk.injEq] at h
  rw [← h.2]
  exact shape_push hw hc'
theorem aop_shape {fr : AFr} {o : Op} {z : AV} (h : aop P C fr.eval H o = some (z, H')) (hg : clsOf C o ≠ .g) (hw : H.WF) : Shape (clsOf C o) H H' := by
  by_cases hp : clsOf C o = .p
  · rw [(aop_same h hp).1]; exact .refl hw
  cases o
  case alloc e =>
    simp only [aop] at h
    unfold aalloc aallocR at h
    split at h
    · exact abox_shape h hw rfl
    · cases h
  case box e x => exact abox_shape h hw rfl
  case buildSlice t n parts =>
    simp only [aop] at h
    unfold abuildSlice abuildSliceR at h
    repeat' split at h
    all_goals first | (cases h; done) | skip
    simp only [Option.some.injEq, Prod.mk.injEq] at h
    rw [← h.2]; exact shape_push hw rfl
  case makeSlice t l c =>
    simp only [aop] at h
    unfold amake amakeR at h
    repeat' split at h
    all_goals first | (cases h; done) | skip
    simp only [Option.some.injEq, Prod.mk.injEq] at h
    rw [← h.2]; exact shape_push hw rfl
  case load t a =>
    simp only [aop, lift] at h
    split at h <;> try (cases h; done)
    simp only [Option.some.injEq, Prod.mk.injEq] at h
    rw [← h.2]; exact .refl hw
  case store t x y =>
    simp only [aop, liftS] at h
    split at h <;> try (cases h; done)
    rename_i H1 hs
    simp only [Option.some.injEq, Prod.mk.injEq] at h
    rw [← h.2]
    unfold astore astoreR at hs
    repeat' split at hs
    all_goals first | (cases hs; done) | skip
    simp only [Option.some.injEq] at hs
    rw [← hs]
    exact shape_set hw (by assumption) rfl
  case call c =>
    obtain ⟨callee, args, argTypes⟩ := c
    simp only [aop, acallOp] at h
    cases callee with
    | invoke r n => simp [clsOf] at hg
    | builtin b =>
      by_cases hb : b = .append
      · subst hb
        dsimp only at h
        split at h <;> try (cases h; done)
        split at h
        · exact aappend_shape h hw rfl rfl
        · exact aappendZ_shape h hw rfl rfl
      · cases b <;> first | exact absurd rfl hb | exact absurd rfl hg | (simp [clsOf] at hp)
    | value f =>
      cases f with
      | func g =>
        cases hg' : C g with
        | none => simp [clsOf, hg'] at hg
        | some k => cases k with
          | ref fz spec => simp [clsOf, hg'] at hg
          | iter spec => simp [clsOf, hg'] at hg
          | gen start next => simp [clsOf, hg'] at hg
          | pure keep spec =>
            simp only [acallClo, AFr.eval, hg', List.nil_append, List.append_nil] at h
            unfold acallR at h
            cases ht : tysOf P argTypes.toList with
            | none => simp [ht] at h
            | some l =>
              simp only [ht] at h
              exact callP_shape h hw (by simp [clsOf, hg', Cls.isW])
      | _ => simp [clsOf] at hg
  all_goals simp [clsOf] at hp
theorem gd_some {g : Option Bool} {x : Option (AV × AHeap)} {z : AV} (h : gd g x H = some (z, H')) : (g = some true ∧ x = some (z, H')) ∨ (g = some false ∧ z = .tup [] ∧ H' = H) := by
  unfold gd at h
  split at h <;> try (cases h; done)
  rename_i b
  cases b with
  | true => exact .inl ⟨rfl, h⟩
  | false =>
    simp only [Bool.false_eq_true, if_false, Option.some.injEq, Prod.mk.injEq] at h
    exact .inr ⟨rfl, h.1.symm, h.2.symm⟩
theorem dstep_shape {ops : Array Oper} {fr : AFr} {o : Oper} {z : AV} (h : dstep P C ops fr H o = some (z, H')) (hw : H.WF) : Shape (clsOf C o.op) H H' := by
  unfold dstep at h
  split at h
  · rename_i hc
    unfold san at h
    split at h <;> try (cases h; done)
    split at h <;> try (cases h; done)
    rename_i hle
    simp only [Option.some.injEq, Prod.mk.injEq] at h
    rw [← h.2, hc]
    refine ⟨hle, fun b x hb => ?_, (fun h => by cases h), fun h => by cases h⟩
    dsimp only at hb ⊢
    split at hb
    · assumption
    · cases hb
  · rename_i hc
    rcases gd_some h with ⟨_, h⟩ | ⟨_, _, rfl⟩
    · exact aop_shape h (fun hg => hc hg) hw
    · exact .refl hw
def Born (hs : Nat → AHeap) (b : Nat) : Nat → Prop
  | 0 => b < (hs 0).next
  | j + 1 => (hs j).next ≤ b ∧ b < (hs (j + 1)).next
end
section
variable {P : Program} {C : Tab} {ops : Array Oper} {frs : Nat → AFr} {hs : Nat → AHeap}
theorem Run.shape (R : Run P C ops frs hs) : ∀ i, i < ops.size → (hs i).WF ∧ ∀ o, ops[i]? = some o → Shape (clsOf C o.op) (hs i) (hs (i + 1))
  | 0, hi => by
    have h0 : (hs 0).WF := R.wf0
    refine ⟨h0, fun o ho => ?_⟩
    obtain ⟨z, h1, _⟩ := R.step 0 o ho
    exact dstep_shape h1 h0
  | i + 1, hi => by
    obtain ⟨_, h2⟩ := R.shape i (by omega)
    have hw := (h2 ops[i] (by simp [show i < ops.size by omega])).wf
    refine ⟨hw, fun o ho => ?_⟩
    obtain ⟨z, h1, _⟩ := R.step (i + 1) o ho
    exact dstep_shape h1 hw
theorem Run.wf (R : Run P C ops frs hs) {i : Nat} (hi : i ≤ ops.size) : (hs i).WF := by
  cases i with
  | zero => exact R.wf0
  | succ i => exact ((R.shape i (by omega)).2 ops[i] (by simp [show i < ops.size by omega])).wf
theorem Run.next_le (R : Run P C ops frs hs) {i : Nat} : ∀ {j : Nat}, i ≤ j → j ≤ ops.size → (hs i).next ≤ (hs j).next
  | 0, hij, _ => by have : i = 0 := by omega
                    subst this; exact Nat.le_refl _
  | j + 1, hij, hj => by
    by_cases h : i = j + 1
    · subst h; exact Nat.le_refl _
    · have h1 := R.next_le (i := i) (j := j) (by omega) (by omega)
      have h2 := ((R.shape j (by omega)).2 ops[j] (by simp [show j < ops.size by omega])).next
      omega
theorem Run.born_lt (R : Run P C ops frs hs) {b i j : Nat} (h : Born hs b i) (hij : i ≤ j) (hj : j ≤ ops.size) : b < (hs j).next := by
  have := R.next_le hij hj
  cases i with
  | zero => have h : b < (hs 0).next := h; omega
  | succ i => have := h.2; omega
theorem Run.born_le (R : Run P C ops frs hs) {b i j : Nat} (h : Born hs b i) (hb : b < (hs j).next) (hj : j ≤ ops.size) (hi : i ≤ ops.size) : i ≤ j := by
  cases i with
  | zero => omega
  | succ i =>
    by_cases hc : i + 1 ≤ j
    · exact hc
    · have := R.next_le (i := j) (j := i) (by omega) (by omega)
      have := h.1
      omega
theorem Run.born_uniq (R : Run P C ops frs hs) {b i j : Nat} (h : Born hs b i) (h' : Born hs b j) (hi : i ≤ ops.size) (hj : j ≤ ops.size) : i = j := by
  have h1 := R.born_le h (R.born_lt h' (Nat.le_refl j) hj) hj hi
  have h2 := R.born_le h' (R.born_lt h (Nat.le_refl i) hi) hi hj
  omega
theorem Run.born_ex (R : Run P C ops frs hs) {b : Nat} : ∀ {j : Nat}, b < (hs j).next → ∃ i, i ≤ j ∧ Born hs b i
  | 0, h => ⟨0, Nat.le_refl _, h⟩
  | j + 1, h => by
    by_cases hb : b < (hs j).next
    · obtain ⟨i, h1, h2⟩ := R.born_ex hb
      exact ⟨i, by omega, h2⟩
    · exact ⟨j + 1, Nat.le_refl _, by omega, h⟩
theorem Run.chain (R : Run P C ops frs hs) {b a : Nat} (hb : b < (hs a).next) : ∀ {c : Nat}, a ≤ c → c ≤ ops.size →
    (∀ k o, a ≤ k → k < c → ops[k]? = some o → (clsOf C o.op).isW = true → (hs (k + 1)).get b = (hs k).get b) → (hs c).get b = (hs a).get b
  | 0, hac, _, _ => by have : a = 0 := by omega
                       subst this; rfl
  | c + 1, hac, hc, hk => by
    by_cases h : a = c + 1
    · subst h; rfl
    · rw [← R.chain hb (c := c) (by omega) (by omega) fun k o h1 h2 => hk k o h1 (by omega)]
      have ho : ops[c]? = some ops[c] := by simp [show c < ops.size by omega]
      cases hw : (clsOf C ops[c].op).isW with
      | true => exact hk c ops[c] (by omega) (by omega) ho hw
      | false =>
        have := R.next_le (i := a) (j := c) (by omega) (by omega)
        exact ((R.shape c (by omega)).2 _ ho).same hw b (by omega)
structure HS (C : Tab) (ops : Array Oper) (hs : Nat → AHeap) (D : Nat → Prop) (A : Nat → Prop) (G : AHeap) (κ : Nat) : Prop where
  le : κ ≤ ops.size
  sep : ∀ k o, ops[k]? = some o → (clsOf C o.op).isW = true → (D k ↔ k < κ)
  blk : ∀ b, A b → ∃ i, i ≤ ops.size ∧ Born hs b i ∧ (∀ j, i = j + 1 → D j) ∧ G.get b = (hs (max κ i)).get b
  all : ∀ b i, i ≤ ops.size → Born hs b i → (∀ j, i = j + 1 → D j) → A b
  un : ∀ k o, ops[k]? = some o → (clsOf C o.op).isW = true → D k → ∀ b j, j + 1 ≤ k → Born hs b (j + 1) → ¬ D j → (hs (k + 1)).get b = (hs k).get b
def Closed (ops : Array Oper) (D : Nat → Prop) : Prop := ∀ i j, i < ops.size → j < ops.size → D j → Bf ops i j → D i
structure Ready (ops : Array Oper) (D : Nat → Prop) (i : Nat) (o : Oper) : Prop where
  at_ : ops[i]? = some o
  new : ¬ D i
  closed : Closed ops D
  bef : ∀ k, k < ops.size → Bf ops k i → D k
theorem Ready.lt {D : Nat → Prop} {i : Nat} {o : Oper} (r : Ready ops D i o) : i < ops.size := (Array.getElem?_eq_some_iff.1 r.at_).1
theorem Ready.after {D : Nat → Prop} {i : Nat} {o : Oper} (r : Ready ops D i o) {j : Nat} (hj : j < ops.size) (hD : D j) : ¬ Bf ops i j := fun h => r.new (r.closed i j r.lt hj hD h)
theorem pairOk_cls {x y : Oper} (h : pairOk C ops x y = true) : clsPair (clsOf C x.op) (clsOf C y.op) = true := by
  simp only [pairOk, Bool.and_eq_true] at h; exact h.2
theorem Ready.writers {D : Nat → Prop} {i : Nat} {o : Oper} (r : Ready ops D i o) (R : Run P C ops frs hs) (hw : (clsOf C o.op).isW = true) {k : Nat} {o' : Oper} (hk : ops[k]? = some o') (hw' : (clsOf C o'.op).isW = true) : (k < i → D k) ∧ (i < k → ¬ D k) := by
  have hkl : k < ops.size := (Array.getElem?_eq_some_iff.1 hk).1
  refine ⟨fun h => ?_, fun h hD => ?_⟩
  · rcases reg_pair R.reg hk r.at_ h with h | h
    · exact r.bef k hkl h
    · have := pairOk_cls h
      simp [clsPair, hw, hw'] at this
  · rcases reg_pair R.reg r.at_ hk h with h | h
    · exact r.after hkl hD h
    · have := pairOk_cls h
      simp [clsPair, hw, hw'] at this
theorem HS.move {D A : Nat → Prop} {G : AHeap} {κ i : Nat} {o : Oper} (S : HS C ops hs D A G κ) (R : Run P C ops frs hs) (r : Ready ops D i o) (hw : (clsOf C o.op).isW = true) : HS C ops hs D A G i := by
  have hκ : κ ≤ i := by
    have := S.sep i o r.at_ hw
    exact Nat.le_of_not_lt fun h => r.new (this.2 h)
  have hno : ∀ k o', ops[k]? = some o' → (clsOf C o'.op).isW = true → κ ≤ k → k < i → False := fun k o' hk hw' h1 h2 => by
    have := (S.sep k o' hk hw').1 ((r.writers R hw hk hw').1 h2)
    omega
  have hi := r.lt
  refine ⟨by omega, fun k o' hk hw' => ⟨fun h => ?_, fun h => (r.writers R hw hk hw').1 h⟩, fun b hb => ?_, S.all, S.un⟩
  · have := (S.sep k o' hk hw').1 h
    omega
  · obtain ⟨j, h1, h2, h3, h4⟩ := S.blk b hb
    refine ⟨j, h1, h2, h3, h4.trans ?_⟩
    symm
    refine R.chain (R.born_lt h2 (by omega) (by omega)) (by omega) (by omega) fun k o' q1 q2 q3 q4 => ?_
    exact (hno k o' q3 q4 (by omega) (by omega)).elim
theorem HS.has {D A : Nat → Prop} {G : AHeap} {i : Nat} (S : HS C ops hs D A G i) (R : Run P C ops frs hs) : Has A (hs i) G := by
  intro b x hb hx
  obtain ⟨j, h1, h2, h3, h4⟩ := S.blk b hb
  have hj := R.born_le h2 (R.wf S.le b x hx) S.le h1
  rw [h4, show max i j = i by omega]
  exact hx
theorem HS.fresh {D A : Nat → Prop} {G : AHeap} {κ i : Nat} {o : Oper} (S : HS C ops hs D A G κ) (R : Run P C ops frs hs) (r : Ready ops D i o) (hn : (hs (i + 1)).next = (hs i).next + 1) : ¬ A (hs i).next := by
  intro h
  obtain ⟨j, h1, h2, h3, h4⟩ := S.blk _ h
  have hb : Born hs (hs i).next (i + 1) := ⟨Nat.le_refl _, by omega⟩
  have := R.born_uniq h2 hb h1 r.lt
  exact r.new (h3 i this)
theorem HS.fresh' {D A : Nat → Prop} {G : AHeap} {κ : Nat} (S : HS C ops hs D A G κ) (R : Run P C ops frs hs) : ¬ A (hs ops.size).next := by
  intro h
  obtain ⟨j, h1, h2, h3, h4⟩ := S.blk _ h
  have := R.born_lt h2 h1 (Nat.le_refl _)
  omega
end
end Go.Abs
end
section
set_option linter.unusedSimpArgs false
set_option linter.unusedVariables false
namespace Go.Abs
section
variable {P : Program} {C : Tab} {ops : Array Oper} {frs : Nat → AFr} {hs : Nat → AHeap} {D A A' : Nat → Prop} {G G' : AHeap} {κ i : Nat} {o : Oper}
def With (D : Nat → Prop) (i : Nat) : Nat → Prop := fun k => D k ∨ k = i
theorem step_born (R : Run P C ops frs hs) (r : Ready ops D i o) {b j : Nat} (h : Born hs b j) (hD : ∀ k, j = k + 1 → With D i k) (hj : j ≤ ops.size) :
    (∀ k, j = k + 1 → D k) ∨ (j = i + 1 ∧ (hs i).next ≤ b ∧ b < (hs (i + 1)).next) := by
  cases j with
  | zero => exact .inl fun k hk => by omega
  | succ j =>
    rcases hD j rfl with h1 | h1
    · exact .inl fun k hk => by rw [← Nat.succ.inj hk]; exact h1
    · subst h1; exact .inr ⟨rfl, h.1, h.2⟩
theorem HS.calm (S : HS C ops hs D A G κ) (R : Run P C ops frs hs) (r : Ready ops D i o) (hw : (clsOf C o.op).isW = false)
    (hA : (A' = A ∧ (hs (i + 1)).next = (hs i).next ∧ G'.get = G.get) ∨
      (A' = withB A (hs i).next ∧ (hs (i + 1)).next = (hs i).next + 1 ∧ G'.get (hs i).next = (hs (i + 1)).get (hs i).next ∧ ∀ b, b ≠ (hs i).next → G'.get b = G.get b)) :
    HS C ops hs (With D i) A' G' κ := by
  have hi := r.lt
  have hold : ∀ b, A b → A' b ∧ G'.get b = G.get b := fun b hb => by
    rcases hA with ⟨rfl, _, h⟩ | ⟨rfl, h1, h2, h3⟩
    · exact ⟨hb, by rw [h]⟩
    · exact ⟨.inl hb, h3 b fun e => S.fresh R r h1 (e ▸ hb)⟩
  have new : ∀ b, (hs i).next ≤ b → b < (hs (i + 1)).next → A' b := fun b h1 h2 => by
    rcases hA with ⟨rfl, h, _⟩ | ⟨rfl, h, _⟩
    · omega
    · exact .inr (by omega)
  refine ⟨S.le, fun k o' hk hw' => ?_, fun b hb => ?_, fun b j hj hB hD => ?_, fun k o' hk hw' hD b j hjk hB hn => ?_⟩
  · have hne : k ≠ i := fun e => by subst e; rw [r.at_] at hk; simp only [Option.some.injEq] at hk; subst hk; rw [hw] at hw'; cases hw'
    rw [← S.sep k o' hk hw']
    exact ⟨fun h => h.resolve_right hne, .inl⟩
  · have caseA : A b → ∃ i_1, i_1 ≤ ops.size ∧ Born hs b i_1 ∧ (∀ j, i_1 = j + 1 → With D i j) ∧ G'.get b = (hs (max κ i_1)).get b := fun hb => by
      obtain ⟨j, h1, h2, h3, h4⟩ := S.blk b hb
      exact ⟨j, h1, h2, fun k hk => .inl (h3 k hk), by rw [(hold b hb).2, h4]⟩
    rcases hA with ⟨rfl, _, _⟩ | ⟨rfl, h1, h2, h3⟩
    · exact caseA hb
    · rcases hb with hb | rfl
      · exact caseA hb
      · have hB : Born hs (hs i).next (i + 1) := ⟨Nat.le_refl _, by omega⟩
        refine ⟨i + 1, hi, hB, fun j hj => .inr (Nat.succ.inj hj).symm, h2.trans ?_⟩
        symm
        have hκ := S.le
        refine R.chain (by omega) (by omega) (by omega) fun k o' q1 q2 q3 q4 => ?_
        exact S.un k o' q3 q4 ((S.sep k o' q3 q4).2 (by omega)) _ i q1 hB r.new
  · rcases step_born R r hB hD hj with h | ⟨_, h1, h2⟩
    · exact (hold b (S.all b j hj hB h)).1
    · exact new b h1 h2
  · have hne : k ≠ i := fun e => by subst e; rw [r.at_] at hk; simp only [Option.some.injEq] at hk; subst hk; rw [hw] at hw'; cases hw'
    exact S.un k o' hk hw' (hD.resolve_right hne) b j hjk hB fun h => hn (.inl h)
theorem HS.writer (S : HS C ops hs D A G i) (R : Run P C ops frs hs) (r : Ready ops D i o) (hw : (clsOf C o.op).isW = true) (T : Nat → Prop)
    (hT : ∀ b, T b → (A b ∧ ∃ x, (hs i).get b = some x) ∨ (b = (hs i).next ∧ (hs (i + 1)).next = (hs i).next + 1))
    (h1 : ∀ b, T b → G'.get b = (hs (i + 1)).get b) (h2 : ∀ b, ¬ T b → G'.get b = G.get b ∧ (hs (i + 1)).get b = (hs i).get b)
    (hA : (A' = A ∧ (hs (i + 1)).next = (hs i).next) ∨ (A' = withB A (hs i).next ∧ (hs (i + 1)).next = (hs i).next + 1 ∧ T (hs i).next)) :
    HS C ops hs (With D i) A' G' (i + 1) := by
  have hi := r.lt
  have hold : ∀ b, A b → A' b := fun b hb => by
    rcases hA with ⟨rfl, _⟩ | ⟨rfl, _⟩
    · exact hb
    · exact .inl hb
  refine ⟨hi, fun k o' hk hw' => ?_, fun b hb => ?_, fun b j hj hB hD => ?_, fun k o' hk hw' hD b j hjk hB hn => ?_⟩
  · refine ⟨fun h => ?_, fun h => ?_⟩
    · rcases h with h | rfl
      · have := (S.sep k o' hk hw').1 h; omega
      · omega
    · by_cases hki : k = i
      · exact .inr hki
      · exact .inl ((S.sep k o' hk hw').2 (by omega))
  · have caseA : A b → ∃ i_1, i_1 ≤ ops.size ∧ Born hs b i_1 ∧ (∀ j, i_1 = j + 1 → With D i j) ∧ G'.get b = (hs (max (i + 1) i_1)).get b := fun hb => by
      obtain ⟨j, q1, q2, q3, q4⟩ := S.blk b hb
      refine ⟨j, q1, q2, fun k hk => .inl (q3 k hk), ?_⟩
      have hji : j ≠ i + 1 := fun e => r.new (q3 i e)
      by_cases ht : T b
      · rw [h1 b ht]
        have : j ≤ i := by
          rcases hT b ht with ⟨_, x, hx⟩ | ⟨rfl, hn⟩
          · exact R.born_le q2 (R.wf S.le b x hx) S.le q1
          · exact (S.fresh R r hn hb).elim
        rw [show max (i + 1) j = i + 1 by omega]
      · rw [(h2 b ht).1, q4]
        by_cases hj : j ≤ i
        · rw [show max i j = i by omega, show max (i + 1) j = i + 1 by omega]; exact (h2 b ht).2.symm
        · rw [show max i j = j by omega, show max (i + 1) j = j by omega]
    rcases hA with ⟨rfl, _⟩ | ⟨rfl, hn, ht⟩
    · exact caseA hb
    · rcases hb with hb | rfl
      · exact caseA hb
      · refine ⟨i + 1, hi, ⟨Nat.le_refl _, by omega⟩, fun j hj => .inr (Nat.succ.inj hj).symm, ?_⟩
        rw [h1 _ ht, show max (i + 1) (i + 1) = i + 1 by omega]
  · rcases step_born R r hB hD hj with h | ⟨_, q1, q2⟩
    · exact hold b (S.all b j hj hB h)
    · rcases hA with ⟨rfl, h⟩ | ⟨rfl, h, _⟩
      · omega
      · exact .inr (by omega)
  · rcases hD with hD | rfl
    · exact S.un k o' hk hw' hD b j hjk hB fun h => hn (.inl h)
    · refine (h2 b fun ht => ?_).2
      rcases hT b ht with ⟨hb, _⟩ | ⟨rfl, hnx⟩
      · obtain ⟨j', q1, q2, q3, _⟩ := S.blk b hb
        have := R.born_uniq q2 hB q1 (by omega)
        exact hn (.inl (q3 j this))
      · have := R.born_lt hB hjk (by omega)
        omega
theorem HS.call (S : HS C ops hs D A G i) (R : Run P C ops frs hs) (r : Ready ops D i o) (hg : clsOf C o.op = .g) :
    (∀ b, b < (hs i).next → A b ∧ (∀ x, (hs i).get b = some x ∨ G.get b = some x → G.get b = (hs i).get b)) ∧ (∀ b, b < (hs i).next → G.get b = (hs i).get b) ∧
      ∀ b, A b → ¬ b < (hs i).next → (hs (i + 1)).next ≤ b ∧ ∃ j o', i < j ∧ ops[j]? = some o' ∧ clsOf C o'.op = .al ∧ ¬ Bf ops i j ∧ ¬ Bf ops j i := by
  have hi := r.lt
  have alOf : ∀ b j, Born hs b (j + 1) → (hj : j < ops.size) → (clsOf C ops[j].op).isAl = true := fun b j hB hj => by
    have ho : ops[j]? = some ops[j] := by simp [hj]
    cases h : (clsOf C ops[j].op).isAl with
    | true => rfl
    | false =>
      have := ((R.shape j hj).2 _ ho).none h
      have := hB.1
      have := hB.2
      omega
  have early : ∀ b j, Born hs b (j + 1) → j < i → D j := fun b j hB h => by
    have hj : j < ops.size := by omega
    have ho : ops[j]? = some ops[j] := by simp [hj]
    rcases reg_pair R.reg ho r.at_ h with h' | h'
    · exact r.bef j hj h'
    · have := pairOk_cls h'
      simp [clsPair, hg, alOf b j hB hj] at this
  have inA : ∀ b, b < (hs i).next → A b := fun b hb => by
    obtain ⟨j, h1, h2⟩ := R.born_ex hb
    refine S.all b j (by omega) h2 fun k hk => ?_
    subst hk
    exact early b k h2 (by omega)
  have same : ∀ b, b < (hs i).next → G.get b = (hs i).get b := fun b hb => by
    obtain ⟨j, h1, h2, h3, h4⟩ := S.blk b (inA b hb)
    have := R.born_le h2 hb S.le h1
    rw [h4, show max i j = i by omega]
  refine ⟨fun b hb => ⟨inA b hb, fun _ _ => same b hb⟩, same, fun b hb hlt => ?_⟩
  obtain ⟨j, h1, h2, h3, h4⟩ := S.blk b hb
  cases j with
  | zero => exact (hlt (R.born_lt h2 (by omega) S.le)).elim
  | succ j =>
    have hD := h3 j rfl
    have hne : j ≠ i := fun e => r.new (e ▸ hD)
    have hji : i < j := by
      refine Nat.lt_of_not_le fun hle => ?_
      exact hlt (R.born_lt h2 (by omega) S.le)
    have hj : j < ops.size := by omega
    have ho : ops[j]? = some ops[j] := by simp [hj]
    have hal := alOf b j h2 hj
    refine ⟨?_, j, ops[j], hji, ho, ?_, r.after hj hD, fun h => ?_⟩
    · have := R.next_le (i := i + 1) (j := j) (by omega) (by omega)
      have := h2.1
      omega
    · rcases reg_pair R.reg r.at_ ho hji with h' | h'
      · exact (r.after hj hD h').elim
      · have := pairOk_cls h'
        cases hc : clsOf C ops[j].op <;> rw [hc] at hal this <;> first | rfl | (simp [Cls.isAl] at hal; done) | (simp [clsPair, hg, Cls.isW] at this; done)
    · have := reg_lt R.reg ho r.at_ h
      omega
theorem HS.called (S : HS C ops hs D A G i) (R : Run P C ops frs hs) (r : Ready ops D i o) (hg : clsOf C o.op = .g) (hw : (clsOf C o.op).isW = true) (hG : ∀ b, b < (hs (i + 1)).next → G'.get b = (hs (i + 1)).get b) (hG2 : ∀ b, A b → ¬ b < (hs (i + 1)).next → G'.get b = G.get b) :
    HS C ops hs (With D i) (fun b => b < (hs (i + 1)).next ∨ A b) G' (i + 1) := by
  have hi := r.lt
  have hle := R.next_le (i := i) (j := i + 1) (by omega) (by omega)
  obtain ⟨c1, c2, c3⟩ := S.call R r hg
  refine ⟨hi, fun k o' hk hw' => ?_, fun b hb => ?_, fun b j hj hB hD => ?_, fun k o' hk hw' hD b j hjk hB hn => ?_⟩
  · refine ⟨fun h => ?_, fun h => ?_⟩
    · rcases h with h | rfl
      · have := (S.sep k o' hk hw').1 h; omega
      · omega
    · by_cases hki : k = i
      · exact .inr hki
      · exact .inl ((S.sep k o' hk hw').2 (by omega))
  · by_cases hb' : b < (hs i).next
    · obtain ⟨j, q1, q2, q3, q4⟩ := S.blk b (c1 b hb').1
      have := R.born_le q2 hb' S.le q1
      exact ⟨j, q1, q2, fun k hk => .inl (q3 k hk), by rw [hG b (by omega), show max (i + 1) j = i + 1 by omega]⟩
    · by_cases hb2 : b < (hs (i + 1)).next
      · exact ⟨i + 1, hi, ⟨by omega, hb2⟩, fun j hj => .inr (Nat.succ.inj hj).symm, by rw [hG b hb2, show max (i + 1) (i + 1) = i + 1 by omega]⟩
      · have hA : A b := hb.resolve_left hb2
        obtain ⟨j, q1, q2, q3, q4⟩ := S.blk b hA
        have hj : i + 1 < j := by
          refine Nat.lt_of_not_le fun hle => hb2 (R.born_lt q2 hle hi)
        exact ⟨j, q1, q2, fun k hk => .inl (q3 k hk), by rw [hG2 b hA hb2, q4, show max i j = j by omega, show max (i + 1) j = j by omega]⟩
  · rcases step_born R r hB hD hj with h | ⟨_, q1, q2⟩
    · exact .inr (S.all b j hj hB h)
    · exact .inl q2
  · rcases hD with hD | rfl
    · exact S.un k o' hk hw' hD b j hjk hB fun h => hn (.inl h)
    · exfalso
      have h : b < (hs k).next := R.born_lt hB hjk (by omega)
      obtain ⟨j', q1, q2, q3, _⟩ := S.blk b (c1 b h).1
      have := R.born_uniq q2 hB q1 (by omega)
      exact hn (.inl (q3 j this))
theorem HS.load (S : HS C ops hs D A G κ) (R : Run P C ops frs hs) (r : Ready ops D i o) {t : TypeId} {x : Operand} (ho : o.op = .load t x) {z : AV} (hz : aload P t ((frs i).eval x) (hs i) = some z)
    {w : World} {F : Nat → Prop} {m : Nat → Nat} {v : Value} (hv : RV w F A m ((frs i).eval x) v) : aload P t ((frs i).eval x) G = some z := by
  have hi := r.lt
  rw [← hz]
  by_cases hp : ∃ b sz q j, (frs i).eval x = .ptr b sz q j
  · obtain ⟨b, sz, q, j0, hp⟩ := hp
    have hAb : A b := by rw [hp] at hv; cases hv with | ptr _ _ _ _ hA => exact hA
    obtain ⟨j, h1, h2, h3, h4⟩ := S.blk b hAb
    have hbi : ∃ y, (hs i).get b = some y := by
      rw [hp] at hz
      unfold aload aloadR at hz
      dsimp only at hz
      split at hz <;> try (cases hz; done)
      rename_i y hy
      exact ⟨y, hy⟩
    obtain ⟨y, hy⟩ := hbi
    have hji := R.born_le h2 (R.wf (by omega) b y hy) (by omega) h1
    have hGb : aload P t ((frs i).eval x) G = aload P t ((frs i).eval x) (hs (max κ j)) := aload_local fun b' sz' i' j' e => by
      rw [hp] at e; cases e; exact h4
    rw [hGb]
    have stepEq : ∀ k, k < ops.size → j ≤ k → (∀ o', ops[k]? = some o' → (clsOf C o'.op).isW = true → ¬ Bf ops k i ∧ ¬ Bf ops i k) → aload P t ((frs i).eval x) (hs (k + 1)) = aload P t ((frs i).eval x) (hs k) := fun k hk hjk hc => by
      have hok : ops[k]? = some ops[k] := by simp [hk]
      cases hw : (clsOf C ops[k].op).isW with
      | true =>
        obtain ⟨b1, b2⟩ := hc _ hok hw
        exact (R.chk i k o ops[k] t x r.at_ hok ho hw b1 b2).symm
      | false =>
        refine aload_local fun b' sz' i' j' e => ?_
        rw [hp] at e; cases e
        exact ((R.shape k hk).2 _ hok).same hw b (R.born_lt h2 hjk (by omega))
    have chain : ∀ a c, j ≤ a → a ≤ c → c ≤ ops.size → (∀ k o', a ≤ k → k < c → ops[k]? = some o' → (clsOf C o'.op).isW = true → ¬ Bf ops k i ∧ ¬ Bf ops i k) → aload P t ((frs i).eval x) (hs c) = aload P t ((frs i).eval x) (hs a) := by
      intro a c hja
      induction c with
      | zero => intro h1 h2 h3; have : a = 0 := by omega
                subst this; rfl
      | succ c ih =>
        intro h1 h2 h3
        by_cases h : a = c + 1
        · subst h; rfl
        · rw [stepEq c (by omega) (by omega) fun o' q1 q2 => h3 c o' (by omega) (by omega) q1 q2]
          exact ih (by omega) (by omega) fun k o' q1 q2 => h3 k o' q1 (by omega)
    have hκ := S.le
    by_cases hc : κ ≤ i
    · refine (chain (max κ j) i (by omega) (by omega) (by omega) fun k o' q1 q2 q3 q4 => ?_).symm
      have hk : k < ops.size := by omega
      have hnD : ¬ D k := fun h => by have := (S.sep k o' q3 q4).1 h; omega
      refine ⟨fun h => hnD (r.bef k hk h), fun h => ?_⟩
      have := reg_lt R.reg r.at_ q3 h
      omega
    · rw [show max κ j = κ by omega]
      refine chain i κ (by omega) (by omega) (by omega) fun k o' q1 q2 q3 q4 => ?_
      have hk : k < ops.size := by omega
      have hD : D k := (S.sep k o' q3 q4).2 (by omega)
      refine ⟨fun h => ?_, r.after hk hD⟩
      have := reg_lt R.reg q3 r.at_ h
      omega
  · exact aload_local fun b sz q j e => (hp ⟨b, sz, q, j, e⟩).elim
end
end Go.Abs
end
section
set_option linter.unusedSimpArgs false
set_option linter.unusedVariables false
namespace Go.Abs
section
variable {P : Program} {C : Tab} {ops : Array Oper} {frs : Nat → AFr} {hs : Nat → AHeap} {D A A' : Nat → Prop} {G G' : AHeap} {κ i : Nat} {o : Oper} {w w' : World} {F F' : Nat → Prop} {m m' : Nat → Nat}
theorem AHeap.eq_of {H G : AHeap} (h : H.next = G.next) (h' : H.get = G.get) : H = G := by cases H; cases G; simp at h h'; rw [h, h']
def FS (ops : Array Oper) (frs : Nat → AFr) (D : Nat → Prop) (w : World) (F A : Nat → Prop) (m : Nat → Nat) (tmps : Array Value) : Prop :=
  ∀ t, ∃ σ, σ ≤ ops.size ∧ (∀ k o, ops[k]? = some o → o.dst = some t → (D k ↔ k < σ)) ∧ RV w F A m (frs σ t) (tmps.getD t undef)
theorem Run.slot (R : Run P C ops frs hs) {t a : Nat} : ∀ {c : Nat}, a ≤ c → c ≤ ops.size → (∀ k o, a ≤ k → k < c → ops[k]? = some o → o.dst ≠ some t) → frs c t = frs a t
  | 0, hac, _, _ => by have : a = 0 := by omega
                       subst this; rfl
  | c + 1, hac, hc, hk => by
    by_cases h : a = c + 1
    · subst h; rfl
    · rw [← R.slot (c := c) (by omega) (by omega) fun k o h1 h2 => hk k o h1 (by omega)]
      have ho : ops[c]? = some ops[c] := by simp [show c < ops.size by omega]
      obtain ⟨z, _, h2⟩ := R.step c _ ho
      rw [h2]
      have hd := hk c _ (by omega) (by omega) ho
      cases hdst : ops[c].dst with
      | none => rfl
      | some d =>
        rw [hdst] at hd
        simp only [AFr.put]
        exact AFr.upd_ne _ _ _ _ fun e => hd (by rw [e])
theorem pairOk_apart {x y : Oper} (h : pairOk C ops x y = true) : Oper.apart ops x y = true := by
  simp only [pairOk, Bool.and_eq_true] at h; exact h.1
theorem FS.looks {tmps : Array Value} (S : FS ops frs D w F A m tmps) (R : Run P C ops frs hs) (r : Ready ops D i o) : ∃ fr : AFr, RF w F A m fr tmps ∧ ∀ t, t ∈ o.looksAt ops → fr t = frs i t := by
  refine ⟨fun t => frs (S t).choose t, fun t => (S t).choose_spec.2.2, fun t ht => ?_⟩
  obtain ⟨h1, h2, _⟩ := (S t).choose_spec
  dsimp only
  generalize (S t).choose = σ at h1 h2
  have hi := r.lt
  have low : ∀ k o', ops[k]? = some o' → o'.dst = some t → k < i → D k := fun k o' hk hd hki => by
    have hkl : k < ops.size := (Array.getElem?_eq_some_iff.1 hk).1
    rcases reg_pair R.reg hk r.at_ hki with h | h
    · exact r.bef k hkl h
    · exact ((Oper.apart_spec (pairOk_apart h)).1 t hd ht).elim
  have high : ∀ k o', ops[k]? = some o' → o'.dst = some t → i ≤ k → ¬ D k := fun k o' hk hd hki hD => by
    have hkl : k < ops.size := (Array.getElem?_eq_some_iff.1 hk).1
    by_cases he : k = i
    · exact r.new (he ▸ hD)
    · rcases reg_pair R.reg r.at_ hk (by omega) with h | h
      · exact r.after hkl hD h
      · exact (Oper.apart_spec (pairOk_apart h)).2.2 t hd ht
  by_cases hc : σ ≤ i
  · refine (R.slot hc (by omega) fun k o' q1 q2 q3 q4 => ?_).symm
    have := (h2 k o' q3 q4).1 (low k o' q3 q4 q2)
    omega
  · exact R.slot (by omega) h1 fun k o' q1 q2 q3 q4 => high k o' q3 q4 q1 ((h2 k o' q3 q4).2 q2)
theorem FS.put {a : Act} {z : AV} {v : Value} (S : FS ops frs D w F A m a.tmps) (R : Run P C ops frs hs) (r : Ready ops D i o) (hz : frs (i + 1) = (frs i).put o.dst z) (hd : ∀ d, o.dst = some d → d < a.tmps.size)
    (hm : ∀ x u, RV w F A m x u → RV w' F' A' m' x u) (hv : RV w' F' A' m' z v) : FS ops frs (With D i) w' F' A' m' (a.put o.dst v).tmps := by
  intro t
  have hi := r.lt
  by_cases ht : o.dst = some t
  · refine ⟨i + 1, hi, fun k o' hk hdk => ?_, ?_⟩
    · have hkl : k < ops.size := (Array.getElem?_eq_some_iff.1 hk).1
      refine ⟨fun h => ?_, fun h => ?_⟩
      · rcases h with h | rfl
        · refine Nat.lt_of_not_le fun hle => ?_
          rcases reg_pair R.reg r.at_ hk (by omega) with h' | h'
          · exact r.after hkl h h'
          · exact (Oper.apart_spec (pairOk_apart h')).2.1 t ht hdk
        · omega
      · by_cases he : k = i
        · exact .inr he
        · rcases reg_pair R.reg hk r.at_ (by omega) with h' | h'
          · exact .inl (r.bef k hkl h')
          · exact ((Oper.apart_spec (pairOk_apart h')).2.1 t hdk ht).elim
    · have hd := hd t ht
      rw [hz, ht]
      simp only [AFr.put, AFr.upd_eq, Act.put]
      simpa [hd] using hv
  · obtain ⟨σ, h1, h2, h3⟩ := S t
    refine ⟨σ, h1, fun k o' hk hdk => ?_, ?_⟩
    · rw [← h2 k o' hk hdk]
      refine ⟨fun h => h.resolve_right fun e => ?_, .inl⟩
      subst e
      rw [r.at_] at hk
      simp only [Option.some.injEq] at hk
      subst hk
      exact ht hdk
    · have e : (a.put o.dst v).tmps.getD t undef = a.tmps.getD t undef := by
        cases hdst : o.dst with
        | none => rfl
        | some d =>
          have hne : d ≠ t := fun e => ht (by rw [hdst, e])
          simp [Act.put, Array.getD_eq_getD_getElem?, Array.getElem?_setIfInBounds_ne hne]
      rw [e]; exact hm _ _ h3
theorem eval_looks {fr fr' : AFr} (h : ∀ t, t ∈ o.looksAt ops → fr t = fr' t) : ∀ x, x ∈ o.op.operands → fr.eval x = fr'.eval x := by
  intro x hx
  cases x with
  | tmp t => exact h t (List.mem_append_left _ (List.mem_filterMap.2 ⟨.tmp t, by simpa using hx, rfl⟩))
  | _ => rfl
theorem guard_looks {fr fr' : AFr} (h : ∀ t, t ∈ o.looksAt ops → fr t = fr' t) : aguard ops fr o = aguard ops fr' o := by
  unfold aguard
  split
  · rfl
  · rename_i j want hg
    split
    · rename_i t ht
      rw [h t (List.mem_append_right _ (by rw [hg]; dsimp only; rw [ht]; simp))]
    · rfl
theorem gets_inv (I : Inv w F A m G) (h : G'.get = G.get) : Inv w F A m G' :=
  ⟨fun b x hb => I.own b x (h ▸ hb), fun b x hb => I.blk b x (h ▸ hb), fun b b' x y h1 h2 => I.inj b b' x y (h ▸ h1) (h ▸ h2), I.bound⟩
theorem Evo.gets {H : AHeap} (E : Evo w F A m H w' F' A' m' G) (h : G'.get = G.get) : Evo w F A m H w' F' A' m' G' :=
  ⟨E.os, E.tape, E.output, E.size, E.shape, E.same, E.forb, E.keep, E.ext, fun b x hb => E.owns b x (h ▸ hb)⟩
theorem Evo.gets' {H H' : AHeap} (E : Evo w F A m H w' F' A' m' G) (h : H'.get = H.get) : Evo w F A m H' w' F' A' m' G :=
  ⟨E.os, E.tape, E.output, E.size, E.shape, fun cb h1 h2 => E.same cb h1 fun b x hb => h2 b x (h ▸ hb), E.forb, fun cb h1 h2 h3 => E.keep cb h1 h2 fun b x hb => h3 b x (h ▸ hb), E.ext,
    fun b x hb => (E.owns b x hb).imp (fun ⟨b0, x, h1, h2⟩ => ⟨b0, x, h ▸ h1, h2⟩) id⟩
theorem aop_al {ρ : Operand → AV} {H H' : AHeap} {o : Op} {z : AV} (h : aop P C ρ H o = some (z, H')) (hc : clsOf C o = .al) (A : Nat → Prop) : Loc A H H' (fun G => aop P C ρ G o) z := by
  cases o
  case alloc e => exact aalloc_local h A
  case box e x => exact abox_local h A
  case buildSlice t n parts => exact abuildSlice_local h A
  case makeSlice t l c => exact amake_local h A
  case call c =>
    exfalso
    obtain ⟨callee, args, argTypes⟩ := c
    cases callee with
    | value f =>
      cases f with
      | func g =>
        cases hg' : C g with
        | none => simp [clsOf, hg'] at hc
        | some k => cases k <;> simp [clsOf, hg'] at hc
      | _ => simp [clsOf] at hc
    | builtin b => cases b <;> simp [clsOf] at hc
    | invoke _ _ => simp [clsOf] at hc
  all_goals simp [clsOf] at hc
theorem Loc.next {H H' : AHeap} {run : AHeap → Option (AV × AHeap)} {z : AV} (hl : Loc A H H' run z) (hw : H.WF) : H'.next = H.next ∨ H'.next = H.next + 1 := by
  have hnone : H.get H.next = none := by
    cases h : H.get H.next with
    | none => rfl
    | some x => have := hw _ x h; omega
  obtain ⟨_, _, _, _, _, _, h⟩ := hl H (.inr ⟨rfl, hnone, hnone⟩) (fun _ _ _ h => h)
  exact h.imp (fun h => h.1) (fun h => h.1)
theorem RV.inScope {w : World} {F A A' : Nat → Prop} {m : Nat → Nat} {a : AV} {v : Value} {n : Nat} (h : RV w F A m a v) (hs : scv n a = true) (hA : ∀ b, b < n → A' b) : RV w F A' m a v := by
  cases h with
  | undef v => exact .undef v
  | gho k rows v => exact .gho k rows v
  | agg cs vs hl hc => exact .agg cs vs hl fun i a v h1 h2 => (hc i a v h1 h2).fewer (List.all_eq_true.1 hs a (List.mem_of_getElem? h1)) hA
  | tup cs vs hl hc => exact .tup cs vs hl fun i a v h1 h2 => (hc i a v h1 h2).fewer (List.all_eq_true.1 hs a (List.mem_of_getElem? h1)) hA
  | clo f first caps vs us hl hl' h1 h2 =>
    simp only [scv, Bool.and_eq_true] at hs
    exact .clo f first caps vs us hl hl' (fun i a v q1 q2 => (h1 i a v q1 q2).fewer (List.all_eq_true.1 hs.1 a (List.mem_of_getElem? q1)) hA) (fun i a v q1 q2 => (h2 i a v q1 q2).fewer (List.all_eq_true.1 hs.2 a (List.mem_of_getElem? q1)) hA)
  | int k n => exact .int k n
  | bool b => exact .bool b
  | str s => exact .str s
  | nilp => exact .nilp
  | nils => exact .nils
  | nilf => exact .nilf
  | ptr b sz i j hb => exact (RV.ptr (A := A) b sz i j hb).fewer hs hA
  | sl b sz off len cap e hb hc hm hsh => exact (RV.sl (A := A) b sz off len cap e hb hc hm hsh).fewer hs hA
  | esl sz a cap => exact .esl sz a cap
  | rsl0 sz a cap h0 => exact .rsl0 sz a cap h0
  | rsl sz rows cb co cap val hF hb hc hr hfl hv hrv => exact (RV.rsl (A := A) (m := m) sz rows cb co cap val hF hb hc hr hfl hv hrv).flat_any rfl
  | rptr => simp [scv, idsBelow, AV.flat] at hs
  | mp => simp [scv, idsBelow, AV.flat] at hs
theorem call_hid (hC : Tab.Sound P C) {H H1 : AHeap} {fr : AFr} {a : Act} {z : AV} (h : aop P C fr.eval H o.op = some (z, H1)) (I : Inv w F A m G) (hA : ∀ b, b < H.next → A b) (hG : ∀ b, b < H.next → G.get b = H.get b) (hX : ∀ b, A b → ¬ b < H.next → H1.next ≤ b) (hwf : H.WF)
    (hsc : (∃ b, A b ∧ ¬ b < H.next) → Scope (o.op.operands.toList.map fr.eval) H) (hf : RF w F A m fr a.tmps) {K : Act → World → Prop} {Q : Exit → Act → World → Prop}
    (hk : ∀ v w' F' m', Inv w' F' (fun b => b < H1.next ∨ A b) m' { next := H1.next, get := fun b => if b < H1.next then H1.get b else G.get b } → RV w' F' (fun b => b < H1.next ∨ A b) m' z v →
      Evo w F A m G w' F' (fun b => b < H1.next ∨ A b) m' { next := H1.next, get := fun b => if b < H1.next then H1.get b else G.get b } → K (a.put o.dst v) w') : o.wp P a w K Q := by
  have hget : ∀ b x, H.get b = some x → G.get b = some x := fun b x hb => by rw [hG b (hwf b x hb), hb]
  have seen : ∃ fr0 : AFr, Inv w F (Nx H) m H ∧ RF w F (Nx H) m fr0 a.tmps ∧ ∀ x ∈ o.op.operands, fr.eval x = fr0.eval x := by
    by_cases hx : ∃ b, A b ∧ ¬ b < H.next
    · obtain ⟨s1, s2⟩ := hsc hx
      classical
      refine ⟨fun t => if .tmp t ∈ o.op.operands then fr t else .undef, ⟨fun b blk hb => ⟨hwf b blk hb, (I.own b blk (hget b blk hb)).2⟩, fun b blk hb => ?_, fun b b' x y h1 h2 => I.inj b b' x y (hget b x h1) (hget b' y h2), I.bound⟩, fun t => ?_, fun x hx => ?_⟩
      · obtain ⟨c, h1, h2⟩ := I.blk b blk (hget b blk hb)
        refine ⟨c, h1, h2.fits, h2.wide, h2.flat, fun i row j a p1 p2 => ?_⟩
        obtain ⟨v, q1, q2, q3⟩ := h2.cell i row j a p1 p2
        exact ⟨v, q1, q2, q3.inScope (s2 b blk hb row (List.mem_of_getElem? p1) a (List.mem_of_getElem? p2)) fun b hb => hb⟩
      · dsimp only
        split
        · rename_i ht
          refine (hf t).inScope (s1 (fr t) ?_) fun b hb => hb
          exact List.mem_map.2 ⟨.tmp t, by simpa using ht, rfl⟩
        · exact .undef _
      · cases x with
        | tmp t => simp only [AFr.eval]; rw [if_pos hx]
        | _ => rfl
    · have hN : A = Nx H := by
        funext b
        exact propext ⟨fun hb => Classical.byContradiction fun hlt => hx ⟨b, hb, hlt⟩, hA b⟩
      subst hN
      refine ⟨fr, gets_inv I ?_, hf, fun _ _ => rfl⟩
      funext b
      by_cases hb : b < H.next
      · exact (hG b hb).symm
      · cases h1 : H.get b with
        | some x => exact (hb (hwf b x h1)).elim
        | none =>
          cases h2 : G.get b with
          | none => rfl
          | some x => exact (hb (I.own b x h2).1).elim
  obtain ⟨fr0, I0, hf0, hev⟩ := seen
  rw [aop_congr _ _ hev] at h
  refine aop_sound hC h I0 hf0 fun r w' F' m' I' hv E => ?_
  have hle : ∀ b, b < H.next → b < H1.next := fun b hb => (E.ext b hb).1
  have unown : ∀ b y, ¬ b < H.next → G.get b = some y → ∀ b0 y0, H.get b0 = some y0 → m b0 ≠ m b := fun b y hlt hb b0 y0 h0 he => by
    have := I.inj b0 b y0 y (hget b0 y0 h0) hb he
    exact hlt (this ▸ hwf b0 y0 h0)
  have late : ∀ b y, ¬ b < H1.next → G.get b = some y → A b ∧ ¬ b < H.next := fun b y hlt hb => ⟨(I.own b y hb).1, fun q => hlt (hle b q)⟩
  obtain ⟨M, hM⟩ : ∃ M : Nat → Nat, M = fun b => if b < H1.next then m' b else m b := ⟨_, rfl⟩
  have hM1 : ∀ b, b < H1.next → M b = m' b := fun b hb => by rw [hM]; dsimp only; rw [if_pos hb]
  have hM2 : ∀ b, ¬ b < H1.next → M b = m b := fun b hb => by rw [hM]; dsimp only; rw [if_neg hb]
  have hup : ∀ {x : AV} {u : Value}, RV w' F' (Nx H1) m' x u → RV w' F' (fun b => b < H1.next ∨ A b) M x u := fun hx =>
    hx.mono (Nat.le_refl _) (fun _ _ => rfl) (fun _ _ _ => rfl) (fun _ _ h => h) fun b hb => ⟨.inl hb, hM1 b hb⟩
  have E2 : Evo w F A m G w' F' (fun b => b < H1.next ∨ A b) M { next := H1.next, get := fun b => if b < H1.next then H1.get b else G.get b } := by
    refine ⟨E.os, E.tape, E.output, E.size, E.shape, fun cb h1 h2 => E.same cb h1 fun b0 y0 h0 => h2 b0 y0 (hget b0 y0 h0), E.forb, fun cb h1 h2 h3 => E.keep cb h1 h2 fun b0 y0 h0 => h3 b0 y0 (hget b0 y0 h0), fun b hb => ?_, fun b blk hb => ?_⟩
    · by_cases hlt : b < H.next
      · exact ⟨.inl (hle b hlt), by rw [hM1 b (hle b hlt)]; exact (E.ext b hlt).2⟩
      · have := hX b hb hlt
        exact ⟨.inr hb, hM2 b (by omega)⟩
    · dsimp only at hb
      by_cases hlt : b < H1.next
      · rw [if_pos hlt] at hb
        rw [hM1 b hlt]
        exact (E.owns b blk hb).imp (fun ⟨b0, x, h1, h2⟩ => ⟨b0, x, hget b0 x h1, h2⟩) _root_.id
      · rw [if_neg hlt] at hb
        exact .inl ⟨b, blk, hb, (hM2 b hlt).symm⟩
  have I2 : Inv w' F' (fun b => b < H1.next ∨ A b) M { next := H1.next, get := fun b => if b < H1.next then H1.get b else G.get b } := by
    refine ⟨fun b blk hb => ?_, fun b blk hb => ?_, fun b b' x y h1 h2 he => ?_, I'.bound⟩
    · dsimp only at hb
      by_cases hlt : b < H1.next
      · rw [if_pos hlt] at hb
        exact ⟨.inl hlt, by rw [hM1 b hlt]; exact (I'.own b blk hb).2⟩
      · rw [if_neg hlt] at hb
        obtain ⟨l1, l2⟩ := late b blk hlt hb
        have hFb := (I.own b blk hb).2
        exact ⟨.inr l1, by rw [hM2 b hlt]; exact E.keep _ (I.bound _ hFb) hFb (unown b blk l2 hb)⟩
    · dsimp only at hb
      by_cases hlt : b < H1.next
      · rw [if_pos hlt] at hb
        obtain ⟨c, h1, h2⟩ := I'.blk b blk hb
        refine ⟨c, by rw [hM1 b hlt]; exact h1, h2.fits, h2.wide, h2.flat, fun i row j a p1 p2 => ?_⟩
        obtain ⟨v, q1, q2, q3⟩ := h2.cell i row j a p1 p2
        exact ⟨v, q1, q2, hup q3⟩
      · rw [if_neg hlt] at hb
        obtain ⟨l1, l2⟩ := late b blk hlt hb
        have hFb := (I.own b blk hb).2
        obtain ⟨c, h1, h2⟩ := I.blk b blk hb
        refine ⟨c, by rw [hM2 b hlt]; exact (E.same _ (I.bound _ hFb) (unown b blk l2 hb)).trans h1, h2.fits, h2.wide, h2.flat, fun i row j a p1 p2 => ?_⟩
        obtain ⟨v, q1, q2, q3⟩ := h2.cell i row j a p1 p2
        exact ⟨v, q1, q2, E2.rv I q3⟩
    · dsimp only at h1 h2
      have mixed : ∀ b b' x y, b < H1.next → ¬ b' < H1.next → H1.get b = some x → G.get b' = some y → m' b ≠ m b' := fun b b' x y p1 p2 q1 q2 he => by
        obtain ⟨l1, l2⟩ := late b' y p2 q2
        rcases E.owns b x q1 with ⟨b0, x0, e1, e2⟩ | e1
        · exact unown b' y l2 q2 b0 x0 e1 (e2.trans he)
        · have := I.bound _ (I.own b' y q2).2
          omega
      by_cases l1 : b < H1.next <;> by_cases l2 : b' < H1.next
      · rw [if_pos l1] at h1
        rw [if_pos l2] at h2
        rw [hM1 b l1, hM1 b' l2] at he
        exact I'.inj b b' x y h1 h2 he
      · rw [if_pos l1] at h1
        rw [if_neg l2] at h2
        rw [hM1 b l1, hM2 b' l2] at he
        exact (mixed b b' x y l1 l2 h1 h2 he).elim
      · rw [if_neg l1] at h1
        rw [if_pos l2] at h2
        rw [hM2 b l1, hM1 b' l2] at he
        exact (mixed b' b y x l2 l1 h2 h1 he.symm).elim
      · rw [if_neg l1] at h1
        rw [if_neg l2] at h2
        rw [hM2 b l1, hM2 b' l2] at he
        exact I.inj b b' x y h1 h2 he
  exact hk r w' F' M I2 (hup hv) E2
theorem draw_step (hC : Tab.Sound P C) (R : Run P C ops frs hs) (r : Ready ops D i o) (S : HS C ops hs D A G κ) (I : Inv w F A m G) {a : Act} (fs : FS ops frs D w F A m a.tmps) (hd : ∀ d, o.dst = some d → d < a.tmps.size)
    {K : Act → World → Prop} {Q : Exit → Act → World → Prop}
    (hk : ∀ v w' F' A' m' G' κ', HS C ops hs (With D i) A' G' κ' → Inv w' F' A' m' G' → FS ops frs (With D i) w' F' A' m' (a.put o.dst v).tmps → Evo w F A m G w' F' A' m' G' → K (a.put o.dst v) w') :
    wpOp P ops Q i K a w := by
  obtain ⟨fr, hf, hl⟩ := fs.looks R r
  obtain ⟨z, hz, hput⟩ := R.step i o r.at_
  have hsh := (R.shape i r.lt).2 o r.at_
  have hwf := (R.shape i r.lt).1
  have hgl := guard_looks hl
  have hev := eval_looks hl
  have dead : ∀ b, ¬ A b → G.get b = none := fun b hb => by
    cases h : G.get b with
    | none => rfl
    | some x => exact (hb (I.own b x h).1).elim
  unfold wpOp
  rw [r.at_]
  dsimp only
  have skip : aguard ops (frs i) o = some false → z = .tup [] → hs (i + 1) = hs i → K (a.put o.dst undef) w := by
    intro _ hzu hH
    subst hzu
    cases hw : (clsOf C o.op).isW with
    | false => exact hk undef w F A m G κ (S.calm R r hw (.inl ⟨rfl, by rw [hH], rfl⟩)) I (fs.put R r hput hd (fun _ _ h => h) .skip) .refl
    | true =>
      exact hk undef w F A m G (i + 1) ((S.move R r hw).writer R r hw (fun _ => False) (fun _ h => h.elim) (fun _ h => h.elim) (fun _ _ => ⟨rfl, by rw [hH]⟩) (.inl ⟨rfl, by rw [hH]⟩)) I (fs.put R r hput hd (fun _ _ h => h) .skip) .refl
  by_cases hg : clsOf C o.op = .g
  ·
    unfold dstep at hz
    rw [hg] at hz
    dsimp only at hz
    unfold san at hz
    split at hz <;> try (cases hz; done)
    rename_i z' H1 hst
    split at hz <;> try (cases hz; done)
    rename_i hle
    simp only [Option.some.injEq, Prod.mk.injEq] at hz
    obtain ⟨rfl, hH⟩ := hz
    have hw : (clsOf C o.op).isW = true := by rw [hg]; rfl
    have S' := S.move R r hw
    rcases gd_some hst with ⟨hgt, hop⟩ | ⟨hgf, hzu, hH1⟩
    · have hwant := guard_sound (hgl.trans hgt) hf
      rw [hwant]
      simp only [if_true]
      refine .inl ?_
      obtain ⟨c1, c2, c3⟩ := S'.call R r hg
      have hnx : (hs (i + 1)).next = H1.next := by rw [← hH]
      have hsub' : ∀ b, b < H1.next → (hs (i + 1)).get b = H1.get b := fun b hb => by rw [← hH]; dsimp only; rw [if_pos hb]
      rw [← aop_congr _ _ hev] at hop
      have inScope : (∃ b, A b ∧ ¬ b < (hs i).next) → Scope (o.op.operands.toList.map fr.eval) (hs i) := fun ⟨b, hb, hlt⟩ => by
        obtain ⟨_, j, o', hij, hj, hal, b1, b2⟩ := c3 b hb hlt
        have := R.scp i j o o' r.at_ hj hg hal hij b1 b2
        have e : o.op.operands.toList.map fr.eval = o.op.operands.toList.map (frs i).eval := List.map_congr_left fun x hx => hev x (by simpa using hx)
        rw [e]; exact this
      refine call_hid hC hop (I := I) (hA := fun b hb => (c1 b hb).1) (hG := c2) (hX := fun b hb hlt => by rw [← hnx]; exact (c3 b hb hlt).1) hwf inScope hf fun v w' F' m' I' hv E => ?_
      refine hk v w' F' _ m' _ (i + 1) (S'.called (G' := { next := H1.next, get := fun b => if b < H1.next then H1.get b else G.get b }) R r hg hw (fun b hb => ?_) (fun b hb hlt => ?_)) (hnx ▸ I') (fs.put R r hput hd (fun x u h => (hnx ▸ E : Evo w F A m G w' F' (fun b => b < (hs (i + 1)).next ∨ A b) m' _).rv I h) (hnx ▸ hv)) (hnx ▸ E)
      · dsimp only; rw [if_pos (by rw [← hnx]; exact hb), hsub' b (by rw [← hnx]; exact hb)]
      · dsimp only; rw [if_neg (by rw [← hnx]; exact hlt)]
    · have hwant := guard_sound (hgl.trans hgf) hf
      rw [hwant]
      simp only [Bool.false_eq_true, if_false]
      refine skip hgf hzu ?_
      subst hH1
      rw [← hH]
      refine AHeap.eq_of rfl (funext fun b => ?_)
      dsimp only
      split
      · rfl
      · rename_i hb
        cases h : (hs i).get b with
        | none => rfl
        | some x => exact (hb (hwf b x h)).elim
  · have hst : astep P C ops (frs i) (hs i) o = some (z, hs (i + 1)) := by
      unfold dstep at hz
      split at hz
      · rename_i h; exact (hg h).elim
      · exact hz
    rcases gd_some hst with ⟨hgt, hop⟩ | ⟨hgf, hzu, hH1⟩
    · have hwant := guard_sound (hgl.trans hgt) hf
      rw [hwant]
      simp only [if_true]
      refine .inl ?_
      have hop0 := hop
      rw [← aop_congr _ _ hev] at hop
      have go : ∀ (G0 G1 : AHeap) (κ' : Nat), G0.get = G.get → ¬ A G0.next → aop P C fr.eval G0 o.op = some (z, G1) →
          (∀ A', ((A' = A ∧ G1.next = G0.next) ∨ (A' = withB A G0.next ∧ G1.next = G0.next + 1)) → HS C ops hs (With D i) A' G1 κ') → o.wp P a w K Q := by
        intro G0 G1 κ' hG0 hn hop hS
        refine aop_any hC hop hg (gets_inv I hG0) hn hf fun v w' F' m' A' I' hv E hA => ?_
        exact hk v w' F' A' m' G1 κ' (hS A' hA) I' (fs.put R r hput hd (fun x u h => (E.gets' hG0.symm).rv I h) hv) (E.gets' hG0.symm)
      have fr' := S.fresh' R
      have wr : (clsOf C o.op = .al ∨ clsOf C o.op = .w ∨ clsOf C o.op = .wa) → (clsOf C o.op).isW = true → o.wp P a w K Q := by
        intro hc hw
        have S' := S.move R r hw
        have hloc := aop_loc hop hc hf
        rcases hloc.next hwf with hn | hn
        · obtain ⟨G1, T, q1, q2, q3, q4, q5⟩ := hloc { next := (hs ops.size).next, get := G.get } (.inl hn) (S'.has R)
          have q6 : G1.next = (hs ops.size).next := by
            rcases q5 with ⟨_, q⟩ | ⟨q, _⟩
            · exact q
            · omega
          refine go { next := (hs ops.size).next, get := G.get } G1 (i + 1) rfl fr' q1 fun A' hA => S'.writer R r hw T q2 q3 q4 (.inl ⟨?_, hn⟩)
          rcases hA with ⟨h, _⟩ | ⟨_, h⟩
          · exact h
          · rw [q6] at h; simp at h
        · have hfresh := S.fresh R r hn
          obtain ⟨G1, T, q1, q2, q3, q4, q5⟩ := hloc { next := (hs i).next, get := G.get } (.inr ⟨rfl, dead _ hfresh, by
            cases h : (hs i).get (hs i).next with
            | none => rfl
            | some x => have := hwf _ x h; omega⟩) (S'.has R)
          have q6 : G1.next = (hs i).next + 1 ∧ T (hs i).next := by
            rcases q5 with ⟨q, _⟩ | ⟨_, q, q'⟩
            · omega
            · exact ⟨q, q'⟩
          refine go { next := (hs i).next, get := G.get } G1 (i + 1) rfl hfresh q1 fun A' hA => S'.writer R r hw T q2 q3 q4 (.inr ⟨?_, hn, q6.2⟩)
          rcases hA with ⟨_, h⟩ | ⟨h, _⟩
          · rw [q6.1] at h; simp at h
          · exact h
      cases hc : clsOf C o.op with
      | g => exact (hg hc).elim
      | p =>
        obtain ⟨h1, h2⟩ := aop_same hop hc
        refine go { next := (hs ops.size).next, get := G.get } _ κ rfl fr' (h2 _) fun A' hA => ?_
        refine S.calm R r (by rw [hc]; rfl) (.inl ⟨?_, by rw [h1], rfl⟩)
        rcases hA with ⟨h, _⟩ | ⟨_, h⟩
        · exact h
        · simp at h
      | l =>
        cases hop' : o.op with
        | load t x =>
          rw [hop'] at hop hop0
          simp only [aop, lift] at hop hop0
          split at hop0 <;> try (cases hop0; done)
          rename_i y hy
          simp only [Option.some.injEq, Prod.mk.injEq] at hop0
          obtain ⟨rfl, hH⟩ := hop0
          have hx : fr.eval x = (frs i).eval x := hev x (by rw [hop']; simp [Op.operands])
          have hv := hf.eval x
          rw [hx] at hv
          have hld := S.load R r hop' hy hv
          refine go { next := (hs ops.size).next, get := G.get } { next := (hs ops.size).next, get := G.get } κ rfl fr' ?_ fun A' hA => ?_
          · rw [hop']
            simp only [aop, lift]
            rw [hx]
            have : aload P t ((frs i).eval x) { next := (hs ops.size).next, get := G.get } = aload P t ((frs i).eval x) G := aload_local fun _ _ _ _ _ => rfl
            rw [this, hld]
          · refine S.calm R r (by rw [hc]; rfl) (.inl ⟨?_, by rw [hH], rfl⟩)
            rcases hA with ⟨h, _⟩ | ⟨_, h⟩
            · exact h
            · simp at h
        | call c =>
          exfalso
          obtain ⟨callee, args, argTypes⟩ := c
          rw [hop'] at hc
          cases callee with
          | value f =>
            cases f with
            | func g =>
              cases hg' : C g with
              | none => simp [clsOf, hg'] at hc
              | some k => cases k <;> simp [clsOf, hg'] at hc
            | _ => simp [clsOf] at hc
          | builtin b => cases b <;> simp [clsOf] at hc
          | invoke _ _ => simp [clsOf] at hc
        | _ => rw [hop'] at hc; simp [clsOf] at hc
      | al =>
        have hloc := aop_al hop hc fun _ => False
        rcases hloc.next hwf with hn | hn
        · obtain ⟨G1, T, q1, q2, q3, q4, q5⟩ := hloc { next := (hs ops.size).next, get := G.get } (.inl hn) (fun b x h => h.elim)
          refine go { next := (hs ops.size).next, get := G.get } G1 κ rfl fr' q1 fun A' hA => S.calm R r (by rw [hc]; rfl) (.inl ⟨?_, hn, funext fun b => ?_⟩)
          · rcases hA with ⟨h, _⟩ | ⟨_, h⟩
            · exact h
            · rcases q5 with ⟨_, q⟩ | ⟨q, _⟩
              · rw [q] at h; simp at h
              · omega
          · refine (q4 b fun ht => ?_).1
            rcases q2 b ht with ⟨h, _⟩ | ⟨_, h⟩
            · exact h
            · omega
        · have hfresh := S.fresh R r hn
          obtain ⟨G1, T, q1, q2, q3, q4, q5⟩ := hloc { next := (hs i).next, get := G.get } (.inr ⟨rfl, dead _ hfresh, by
            cases h : (hs i).get (hs i).next with
            | none => rfl
            | some x => have := hwf _ x h; omega⟩) (fun b x h => h.elim)
          have q6 : G1.next = (hs i).next + 1 ∧ T (hs i).next := by
            rcases q5 with ⟨q, _⟩ | ⟨_, q, q'⟩
            · omega
            · exact ⟨q, q'⟩
          refine go { next := (hs i).next, get := G.get } G1 κ rfl hfresh q1 fun A' hA => S.calm R r (by rw [hc]; rfl) (.inr ⟨?_, hn, q3 _ q6.2, fun b hb => ?_⟩)
          · rcases hA with ⟨_, h⟩ | ⟨h, _⟩
            · rw [q6.1] at h; simp at h
            · exact h
          · refine (q4 b fun ht => ?_).1
            rcases q2 b ht with ⟨h, _⟩ | ⟨h, _⟩
            · exact h
            · exact hb h
      | w => exact wr (.inr (.inl hc)) (by rw [hc]; rfl)
      | wa => exact wr (.inr (.inr hc)) (by rw [hc]; rfl)
    · have hwant := guard_sound (hgl.trans hgf) hf
      rw [hwant]
      simp only [Bool.false_eq_true, if_false]
      exact skip hgf hzu hH1
end
end Go.Abs
end
section
set_option linter.unusedSimpArgs false
set_option linter.unusedVariables false
namespace Go.Abs
section
variable {P : Program} {C : Tab} {ops : Array Oper} {frs : Nat → AFr} {hs : Nat → AHeap}
theorem ready_mem {lst : Array Bool} {D : Nat → Prop} (hsz : lst.size = ops.size) (hD : ∀ k, D k ↔ lst[k]? = some true) {i : Nat} :
    i ∈ Region.ready .any ops lst ↔ ∃ o, ops[i]? = some o ∧ ¬ D i ∧ ∀ e, e ∈ o.after.toList → Region.binds .any e = true → D e.on := by
  have getT : ∀ k, lst.getD k false = true ↔ D k := fun k => by
    rw [hD, Array.getD_eq_getD_getElem?]
    cases lst[k]? with
    | none => simp
    | some b => simp
  unfold Region.ready
  simp only [List.mem_filter, List.mem_range, Bool.and_eq_true, Bool.not_eq_true']
  constructor
  · rintro ⟨hi, h1, h2⟩
    have ho : ops[i]? = some ops[i] := by simp [hi]
    rw [ho] at h2
    simp only [Option.map_some, Option.getD_some] at h2
    refine ⟨ops[i], ho, fun h => ?_, fun e he hb => ?_⟩
    · rw [Array.getD_eq_getD_getElem?, (hD i).1 h] at h1; cases h1
    · have := (Array.all_eq_true'.1 h2) e (by simpa using he)
      simp only [Bool.or_eq_true, Bool.not_eq_true'] at this
      rcases this with h | h
      · rw [hb] at h; cases h
      · exact (getT _).1 h
  · rintro ⟨o, ho, h1, h2⟩
    have hi : i < ops.size := (Array.getElem?_eq_some_iff.1 ho).1
    refine ⟨hi, ?_, ?_⟩
    · rw [hD] at h1
      have : lst[i]? = some lst[i] := by simp [hsz, hi]
      rw [Array.getD_eq_getD_getElem?, this]
      rw [this] at h1
      simpa using h1
    · rw [ho]
      simp only [Option.map_some, Option.getD_some]
      refine Array.all_eq_true'.2 fun e he => ?_
      cases hb : Region.binds .any e with
      | false => rfl
      | true =>
        have := (getT _).2 (h2 e (by simpa using he) hb)
        simp [this]
theorem ready_nil {lst : Array Bool} {D : Nat → Prop} (R : regOk C ops = true) (hsz : lst.size = ops.size) (hD : ∀ k, D k ↔ lst[k]? = some true) (h : Region.ready .any ops lst = []) : ∀ k, k < ops.size → D k := by
  intro k
  induction k using Nat.strongRecOn with
  | _ k ih =>
    intro hk
    refine Classical.byContradiction fun hn => ?_
    have ho : ops[k]? = some ops[k] := by simp [hk]
    have : k ∈ Region.ready .any ops lst := (ready_mem hsz hD).2 ⟨ops[k], ho, hn, fun e he hb => by
      have := reg_edge R ho he hb
      exact ih e.on this (by omega)⟩
    rw [h] at this; cases this
theorem ready_ok {lst : Array Bool} {D : Nat → Prop} (R : regOk C ops = true) (hsz : lst.size = ops.size) (hD : ∀ k, D k ↔ lst[k]? = some true) (hc : Closed ops D) {i : Nat} (h : i ∈ Region.ready .any ops lst) : ∃ o, Ready ops D i o := by
  obtain ⟨o, h1, h2, h3⟩ := (ready_mem hsz hD).1 h
  refine ⟨o, h1, h2, hc, fun k hk hb => ?_⟩
  obtain ⟨e, he, hbi, hor⟩ := reg_via R (o := ops[k]) (by simp [hk]) h1 hb
  have hDe := h3 e he hbi
  rcases hor with rfl | hor
  · exact hDe
  · have hi : i < ops.size := (Array.getElem?_eq_some_iff.1 h1).1
    have := reg_edge R h1 he hbi
    exact hc k e.on hk (by omega) hDe hor
theorem Ready.closedW {D : Nat → Prop} {i : Nat} {o : Oper} (r : Ready ops D i o) : Closed ops (With D i) := by
  intro a b ha hb hD hbf
  rcases hD with hD | rfl
  · exact .inl (r.closed a b ha hb hD hbf)
  · exact .inl (r.bef a ha hbf)
theorem draw_go (hC : Tab.Sound P C) (R : Run P C ops frs hs) {l : List Nat} {n : Nat} {ds : List Deferred} (hd : ops.toList.all (dstOk n) = true) {w0 : World} {F0 A0 : Nat → Prop} {m0 : Nat → Nat} {H0 : AHeap} {Q : Exit → Act → World → Prop}
    (hQ : ∀ a' w' F' m', Inv w' F' (Nx (hs ops.size)) m' (hs ops.size) → RF w' F' (Nx (hs ops.size)) m' ((frs ops.size).only l) a'.tmps → a'.tmps.size = n → a'.defers = ds → Evo w0 F0 A0 m0 H0 w' F' (Nx (hs ops.size)) m' (hs ops.size) → Q .normal a' w') :
    ∀ (fuel : Nat) (lst : Array Bool) (a : Act) (w : World) (D F A : Nat → Prop) (m : Nat → Nat) (G : AHeap) (κ : Nat), lst.size = ops.size → (∀ k, D k ↔ lst[k]? = some true) → lst.toList.count false ≤ fuel → Closed ops D →
      HS C ops hs D A G κ → Inv w F A m G → FS ops frs D w F A m a.tmps → a.tmps.size = n → a.defers = ds → Evo w0 F0 A0 m0 H0 w F A m G → wpAny P .any ops Q fuel lst a w := by
  have fin : ∀ (a : Act) (w : World) (D F A : Nat → Prop) (m : Nat → Nat) (G : AHeap) (κ : Nat), (∀ k, k < ops.size → D k) → HS C ops hs D A G κ → Inv w F A m G → FS ops frs D w F A m a.tmps → a.tmps.size = n → a.defers = ds → Evo w0 F0 A0 m0 H0 w F A m G → Q .normal a w := by
    intro a w D F A m G κ hall S I fs hsz hdf E
    have hA : A = Nx (hs ops.size) := by
      funext b
      refine propext ⟨fun hb => ?_, fun hb => ?_⟩
      · obtain ⟨j, h1, h2, _, _⟩ := S.blk b hb
        exact R.born_lt h2 h1 (Nat.le_refl _)
      · obtain ⟨j, h1, h2⟩ := R.born_ex hb
        exact S.all b j h1 h2 fun k hk => hall k (by omega)
    have hG : (hs ops.size).get = G.get := by
      funext b
      by_cases hb : A b
      · obtain ⟨j, h1, h2, _, h4⟩ := S.blk b hb
        rw [h4]
        have hκ := S.le
        refine R.chain (R.born_lt h2 (by omega) (by omega)) (by omega) (Nat.le_refl _) fun k o q1 q2 q3 q4 => ?_
        have := (S.sep k o q3 q4).1 (hall k q2)
        omega
      · have h1 : G.get b = none := by
          cases h : G.get b with
          | none => rfl
          | some x => exact (hb (I.own b x h).1).elim
        rw [h1]
        cases h : (hs ops.size).get b with
        | none => rfl
        | some x => exact (hb (by rw [hA]; exact R.wf (Nat.le_refl _) b x h)).elim
    refine hQ a w F m (by rw [← hA]; exact gets_inv I hG) (fun t => ?_) hsz hdf (by rw [← hA]; exact E.gets hG)
    rw [← hA]
    rcases AFr.only_or (frs ops.size) l t with h | h <;> rw [h]
    · obtain ⟨σ, h1, h2, h3⟩ := fs t
      have : frs ops.size t = frs σ t := R.slot h1 (Nat.le_refl _) fun k o q1 q2 q3 q4 => by
        have := (h2 k o q3 q4).1 (hall k q2)
        omega
      rw [this]; exact h3
    · exact .undef _
  intro fuel
  induction fuel with
  | zero =>
    intro lst a w D F A m G κ hsz hD hcnt hcl S I fs hn hdf E
    have hall : ∀ k, k < ops.size → D k := fun k hk => by
      rw [hD]
      have h0 : lst.toList.count false = 0 := by omega
      have : lst[k]? = some lst[k] := by simp [hsz, hk]
      rw [this]
      cases hb : lst[k] with
      | true => rfl
      | false =>
        exfalso
        exact List.count_eq_zero.1 h0 (by rw [← hb]; simp)
    refine ⟨?_, fin a w D F A m G κ hall S I fs hn hdf E⟩
    rw [List.eq_nil_iff_forall_not_mem]
    intro i hi
    obtain ⟨o, h1, h2, _⟩ := (ready_mem hsz hD).1 hi
    exact h2 (hall i (Array.getElem?_eq_some_iff.1 h1).1)
  | succ fuel ih =>
    intro lst a w D F A m G κ hsz hD hcnt hcl S I fs hn hdf E
    refine ⟨fun h => fin a w D F A m G κ (ready_nil R.reg hsz hD h) S I fs hn hdf E, fun i hi => ?_⟩
    obtain ⟨o, r⟩ := ready_ok R.reg hsz hD hcl hi
    have hdst : ∀ d, o.dst = some d → d < a.tmps.size := fun d hdd => by
      have := List.all_eq_true.1 hd o (by simpa using Array.mem_of_getElem? r.at_)
      simp only [dstOk, hdd, decide_eq_true_eq] at this
      rw [hn]; exact this
    refine draw_step hC R r S I fs hdst fun v w' F' A' m' G' κ' S' I' fs' E' => ?_
    have hil := r.lt
    have hlf : lst[i]? = some false := by
      have h1 : lst[i]? = some lst[i] := by simp [hsz, hil]
      have h2 := r.new
      rw [hD, h1] at h2
      rw [h1]
      cases hb : lst[i] with
      | false => rfl
      | true => rw [hb] at h2; exact (h2 rfl).elim
    refine ih (lst.setIfInBounds i true) _ w' (With D i) F' A' m' G' κ' (by simpa using hsz) (fun k => ?_) ?_ r.closedW S' I' fs' ?_ ?_ (E.trans E')
    · rw [Array.getElem?_setIfInBounds]
      by_cases hk : i = k
      · subst hk; simp [With, hsz, hil]
      · rw [if_neg hk]
        have : k ≠ i := fun e => hk e.symm
        simp [With, this, hD]
    · have hlt : i < lst.toList.length := by simpa [hsz] using hil
      rw [Array.toList_setIfInBounds, List.count_set hlt]
      have e : lst.toList[i] = false := by
        have := Array.getElem?_eq_some_iff.1 hlf
        simpa using this.2
      have hpos : 0 < lst.toList.count false := List.count_pos_iff.2 (by rw [← e]; simp)
      rw [e, if_pos (by rfl), if_neg (by decide)]
      omega
    · cases hdd : o.dst <;> simp [Act.put, hn]
    · cases hdd : o.dst <;> simp [Act.put, hdf]
noncomputable def draws (P : Program) (C : Tab) : Draws P C where
  run := adraw P C
  sound := by
    intro hC ops l fr H fr' H' h w F m a n ds hd I hf hsz hdf _ Q hQ
    have hwf : H.WF := fun b x hb => (I.own b x hb).1
    obtain ⟨frs, hs, R, rfl, rfl, h1, h2⟩ := adraw_run h hwf
    simp only at h1 h2
    subst h1 h2
    refine draw_go hC R (A0 := Nx (hs 0)) hd hQ ops.size (Array.replicate ops.size false) a w (fun _ => False) F (Nx (hs 0)) m (hs 0) 0 (by simp) (fun k => ?_) ?_ (fun _ _ _ _ h => h.elim) ?_ I (fun t => ?_) hsz hdf .refl
    · rw [Array.getElem?_replicate]
      split <;> simp
    · simp
    · refine ⟨Nat.zero_le _, fun k o _ _ => by simp, fun b hb => ⟨0, Nat.zero_le _, hb, fun j hj => by omega, by simp⟩, fun b i hi hB hD => ?_, fun _ _ _ _ h => h.elim⟩
      cases i with
      | zero => exact hB
      | succ i => exact (hD i rfl).elim
    · refine ⟨0, Nat.zero_le _, fun _ _ _ _ => by simp, hf t⟩
end
def EmptyIn : List AV → List AV → Prop
  | [], [] => True
  | a :: as, b :: bs => ((∃ sz, a = .rsl sz [] ∧ (b = .nils ∨ b = .esl sz)) ∨ ((∀ sz, a ≠ .rsl sz []) ∧ b = a)) ∧ EmptyIn as bs
  | _, _ => False
def EmptyOut (b a : AV) : Prop := b = a ∨ ∃ sz, a = .rsl sz [] ∧ (b = .nils ∨ b = .esl sz)
theorem RV.empties {w : World} {F A : Nat → Prop} {m : Nat → Nat} : ∀ {as : List AV} {vs : List Value}, RL w F A m as vs → ∃ bs, EmptyIn as bs ∧ RL w F A m bs vs
  | [], vs, h => ⟨[], trivial, h⟩
  | _ :: _, [], h => by have := h.1; simp at this
  | a :: as, v :: vs, h => by
    obtain ⟨bs, h1, h2⟩ := RV.empties (as := as) (vs := vs) ⟨by simpa using h.1, fun i a v h1 h2 => h.2 (i + 1) a v (by simpa using h1) (by simpa using h2)⟩
    have hav := h.2 0 a v rfl rfl
    have one : ∃ b, ((∃ sz, a = .rsl sz [] ∧ (b = .nils ∨ b = .esl sz)) ∨ ((∀ sz, a ≠ .rsl sz []) ∧ b = a)) ∧ RV w F A m b v := by
      by_cases ha : ∃ sz, a = .rsl sz []
      · obtain ⟨sz, rfl⟩ := ha
        cases hav with
        | rsl0 _ ad cap h0 =>
          cases ad with
          | none =>
            have := h0 rfl
            subst this
            exact ⟨.nils, .inl ⟨sz, rfl, .inl rfl⟩, .nils⟩
          | some ad => exact ⟨.esl sz, .inl ⟨sz, rfl, .inr rfl⟩, .esl _ _ _⟩
        | rsl => exact ⟨.esl sz, .inl ⟨sz, rfl, .inr rfl⟩, .esl _ _ _⟩
      · exact ⟨a, .inr ⟨fun sz e => ha ⟨sz, e⟩, rfl⟩, hav⟩
    obtain ⟨b, h3, h4⟩ := one
    refine ⟨b :: bs, ⟨h3, h1⟩, by simp [h2.1], fun i c u e1 e2 => ?_⟩
    cases i with
    | zero => simp at e1 e2; subst e1 e2; exact h4
    | succ i => exact h2.2 i c u (by simpa using e1) (by simpa using e2)
theorem RV.emptyOut {w : World} {F A : Nat → Prop} {m : Nat → Nat} {a b : AV} {v : Value} (h : RV w F A m b v) (hb : EmptyOut b a) : RV w F A m a v := by
  rcases hb with rfl | ⟨sz, rfl, rfl | rfl⟩
  · exact h
  · cases h; exact .rsl0 _ _ _ fun _ => rfl
  · cases h; exact .rsl0 _ _ _ fun h => by cases h
theorem Sound.empties {P : Program} {f : FuncId} {k : Bool} {s s' : List AV → Option AV} (h : Sound P f (.pure k s)) (hs : ∀ args r, s' args = some r → ∀ bs, EmptyIn args bs → ∃ q, s bs = some q ∧ EmptyOut q r) : Sound P f (.pure k s') := by
  refine ⟨h.1, fun args r hr w F vs hF ha => ?_⟩
  obtain ⟨bs, h1, h2⟩ := RV.empties ha
  obtain ⟨q, h3, h4⟩ := hs args r hr bs h1
  refine (h.2 bs q h3 w F vs hF h2).mono ?_
  rintro e w' ⟨v, rfl, hb, hv⟩
  exact ⟨v, rfl, hb, hv.emptyOut h4⟩
def cloneSpec (sz bytes : Nat) : List AV → Option AV
  | [.rsl s rows] => if s = sz ∧ (rows.all fun row => row.length == sz && row.all AV.noSlC) = true ∧ rows.length * bytes ≤ 140737488355328 then some (.rsl sz rows) else none
  | _ => none
theorem Sound.clone {P : Program} {f : FuncId} {sz bytes : Nat} {s : List AV → Option AV} (h : Sound P f (.pure true s)) (h1 : s [.nils] = some (.rsl sz [])) (h2 : s [.esl sz] = some (.rsl sz []))
    (h3 : ∀ r rows, ((r :: rows).all fun row => row.length == sz && row.all AV.noSlC) = true → (rows.length + 1) * bytes ≤ 140737488355328 → s [.rsl sz (r :: rows)] = some (.rsl sz (r :: rows))) : Sound P f (.pure true (cloneSpec sz bytes)) := by
  refine h.empties fun args r hr bs hb => ?_
  unfold cloneSpec at hr
  split at hr <;> try (cases hr; done)
  rename_i sz' rows
  split at hr <;> try (cases hr; done)
  rename_i hc
  obtain ⟨rfl, hc1, hc2⟩ := hc
  simp only [Option.some.injEq] at hr
  subst hr
  match bs, hb with
  | [b], hb =>
    rcases hb.1 with ⟨sz, he, rfl | rfl⟩ | ⟨hne, rfl⟩
    · cases he
      exact ⟨_, h1, .inl rfl⟩
    · cases he
      exact ⟨_, h2, .inl rfl⟩
    · cases rows with
      | nil => exact (hne _ rfl).elim
      | cons r rows => exact ⟨_, h3 r rows hc1 hc2, .inl rfl⟩
  | [], hb => exact hb.elim
  | _ :: _ :: _, hb => exact hb.2.elim
theorem Sound.less {P : Program} {f : FuncId} {s s' : List AV → Option AV} {k : Bool} (h : Sound P f (.pure k s)) (hs : ∀ args r, s' args = some r → s args = some r) : Sound P f (.pure k s') :=
  ⟨h.1, fun args r hr => h.2 args r (hs args r hr)⟩
theorem Sound.lessR {P : Program} {f : FuncId} {fz fz' : List Bool} {s s' : List AV → AHeap → Option (AV × AHeap)} (h : Sound P f (.ref fz s)) (hs : ∀ args H r, s' args H = some r → s args H = some r) : Sound P f (.ref fz' s') :=
  ⟨h.1, fun args H r H' hr => h.2 args H r H' (hs args H (r, H') hr)⟩
end Go.Abs
end
