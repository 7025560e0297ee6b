/-
  Functions.
-/
import Derived.Test.YtgcfbommjdcgkaaAbs8
set_option linter.unusedSimpArgs false
set_option linter.unusedVariables false
namespace Go.Abs

def args0L : Nat → List AV → List (Nat × AV)
  | _, [] => []
  | k, a :: as => (k, a) :: args0L (k + 1) as

def args0 (args : List AV) : AFr := AFr.al (args0L 0 args)

theorem args0L_get : ∀ (args : List AV) (k t : Nat), AFr.al (args0L k args) t = if t < k then .undef else (args[t - k]?).getD .undef
  | [], k, t => by simp [args0L, AFr.al]
  | a :: as, k, t => by
    simp only [args0L, AFr.al]
    by_cases h : t = k
    · subst h; simp
    · rw [if_neg h, args0L_get as (k + 1) t]
      by_cases h2 : t < k
      · rw [if_pos (by omega), if_pos h2]
      · rw [if_neg (by omega), if_neg h2]
        obtain ⟨d, rfl⟩ : ∃ d, t = k + 1 + d := ⟨t - (k + 1), by omega⟩
        rw [show k + 1 + d - (k + 1) = d from by omega, show k + 1 + d - k = d + 1 from by omega, List.getElem?_cons_succ]

theorem args0_get (args : List AV) (t : Nat) : args0 args t = (args[t]?).getD .undef := by
  rw [args0, args0L_get]; simp

def res2 (v : Option AV) (l : Option (List AV)) : Option (List AV) :=
  match v, l with
  | some v, some l => some (v :: l)
  | _, _ => none

def aresults (P : Program) (fr : AFr) (H : AHeap) : List ResultVar → Option (List AV)
  | [] => some []
  | .tmp t :: rs => res2 (some (fr t)) (aresults P fr H rs)
  | .cell a t :: rs => res2 (aload P t (fr a) H) (aresults P fr H rs)

def mkVal : List Value → Value
  | [v] => v
  | vs => .tuple vs.toArray

/-- A result variable's value. -/
def resVar (tmps : Array Value) : ResultVar → Sem Value
  | .tmp t => pure (tmps.getD t undef)
  | .cell a t => do loadVar t (← asAddr (tmps.getD a undef))

def mkRes : List AV → AV
  | [v] => v
  | vs => .tup vs

/-- What a run of code leaves: results, the heap. -/
def afinR (g : AFr → AHeap → Option (List AV)) (r : ARes) : Option (List AV × AHeap) :=
  match r with
  | some (.normal, fr, H') | some (.ret, fr, H') => match g fr H' with | some l => some (l, H') | none => none
  | _ => none

def afin (P : Program) (rs : List ResultVar) (r : ARes) : Option (List AV × AHeap) := afinR (fun fr H => aresults P fr H rs) r

noncomputable def arun (P : Program) (C : Tab) (D : Draws P C) (K : Nat → List Nat) (fn : Func) (c : Code) (args : List AV) (H : AHeap) : Option (List AV × AHeap) :=
  if args.length ≤ fn.ntmps then afin P fn.results.toList (acode P C D K c (args0 args) H) else none

def closeUpR (l : Option (List (List (Option Nat)))) (x : Option (List AV × AHeap)) : Option AV :=
  match x, l with
  | some (rs, H'), some l => match frzArgs H' l rs with
    | some (rs', _) => some (mkRes rs')
    | none => none
  | _, _ => none

def closeUp (P : Program) (ts : List TypeId) (x : Option (List AV × AHeap)) : Option AV := closeUpR (tysOf P ts) x

/-- A function that answers from what its arguments bear alone. -/
noncomputable def pureOf (P : Program) (C : Tab) (D : Draws P C) (K : Nat → List Nat) (fn : Func) (c : Code) (args : List AV) : Option AV :=
  closeUp P fn.resultTypes.toList (arun P C D K fn c args AHeap.empty)

def idsBelow (n : Nat) : AV → Bool
  | .ptr b _ _ _ => decide (b < n)
  | .sl b _ _ _ => decide (b < n)
  | a => a.flat

/-- What was made is forgotten, where nothing that stays refers to it. -/
def CanTrunc (H H' : AHeap) : Prop :=
  ∀ b, b < H.next → H'.get b = H.get b ∨ ∀ blk, H'.get b = some blk → ∀ row, row ∈ blk.rows → ∀ a, a ∈ row → idsBelow H.next a = true

def AHeap.trunc (H' : AHeap) (n : Nat) : AHeap := { next := n, get := fun b => if b < n then H'.get b else none }

open Classical in
noncomputable def forget (H : AHeap) (x : Option (List AV × AHeap)) : Option (AV × AHeap) :=
  match x with
  | some (rs, H') => if (mkRes rs).closed = true ∧ CanTrunc H H' ∧ H.next ≤ H'.next then some (mkRes rs, H'.trunc H.next) else none
  | none => none

def raw (x : Option (List AV × AHeap)) : Option (AV × AHeap) :=
  match x with
  | some (rs, H') => some (mkRes rs, H')
  | none => none

/-- A function that works on memory: what it made, it may leave. -/
noncomputable def refOf (P : Program) (C : Tab) (D : Draws P C) (K : Nat → List Nat) (fn : Func) (c : Code) (args : List AV) (H : AHeap) : Option (AV × AHeap) := raw (arun P C D K fn c args H)

/-- A function that works on memory and leaves nothing new. -/
noncomputable def refT (P : Program) (C : Tab) (D : Draws P C) (K : Nat → List Nat) (fn : Func) (c : Code) (args : List AV) (H : AHeap) : Option (AV × AHeap) := forget H (arun P C D K fn c args H)

section
variable {P : Program} {w : World} {F A : Nat → Prop} {m : Nat → Nat} {H : AHeap} {C : Tab}

theorem args0_rf {args : List AV} {vs : Array Value} {n : Nat} (h : RLs w F A m args vs) : RF w F A m (args0 args) (vs ++ Array.replicate n undef) := by
  intro t
  rw [args0_get]
  cases hv : args[t]? with
  | some v =>
    simp only [Option.getD_some]
    have hlt : t < vs.size := by
      have := (List.getElem?_eq_some_iff.1 hv).1
      have h1 := h.1
      simp at h1
      omega
    have := h.2 t v vs[t] hv (by simp [hlt])
    have e : (vs ++ Array.replicate n undef).getD t undef = vs[t] := by
      rw [Array.getD_eq_getD_getElem?, Array.getElem?_append_left hlt]
      simp [hlt]
    rw [e]; exact this
  | none => exact .undef _

theorem load_addr {t : TypeId} {p z : AV} {v : Value} (h : aload P t p H = some z) (I : Inv w F A m H) (hp : RV w F A m p v) :
    ∃ r, (do loadVar t (← asAddr v) : Sem Value).run P w = .ok r w ∧ RV w F A m z r := by
  obtain ⟨r, h1, h2⟩ := aload_sound h I hp
  refine ⟨r, ?_, h2⟩
  unfold aload aloadR at h
  split at h <;> try (cases h; done)
  all_goals
    cases hp
    simpa [Instr.loadAt, Instr.sureAddr, asAddr] using h1

theorem run_results {fr : AFr} {tmps : Array Value} (I : Inv w F A m H) (hf : RF w F A m fr tmps) : ∀ (rs : List ResultVar) (l : List AV) (acc : Array Value), aresults P fr H rs = some l →
    ∃ vs : List Value, (rs.foldlM (fun (acc : Array Value) (x : ResultVar) => do pure (acc.push (← resVar tmps x))) acc : Sem (Array Value)).run P w = .ok (acc ++ vs.toArray) w ∧ RL w F A m l vs
  | [], l, acc, h => by
    simp only [aresults, Option.some.injEq] at h
    subst h
    exact ⟨[], by simp, rfl, by simp⟩
  | .tmp t :: rs, l, acc, h => by
    simp only [aresults, res2] at h
    split at h <;> try (cases h; done)
    rename_i z0 l' hz0 hl
    simp only [Option.some.injEq] at h hz0
    subst h hz0
    obtain ⟨vs, h1, h2⟩ := run_results I hf rs l' (acc.push (tmps.getD t undef)) hl
    refine ⟨tmps.getD t undef :: vs, ?_, by simp [h2.1], fun i a v q1 q2 => ?_⟩
    · have e0 : (resVar tmps (.tmp t)).run P w = .ok (tmps.getD t undef) w := rfl
      simp only [List.foldlM_cons, Sem.run_bind, e0, Sem.run_pure, Result.andThen_ok, h1]
      congr 1
      apply Array.toList_inj.1
      simp
    · cases i with
      | zero => simp only [List.getElem?_cons_zero, Option.some.injEq] at q1 q2; subst q1 q2; exact hf t
      | succ i => exact h2.2 i a v (by simpa using q1) (by simpa using q2)
  | .cell b t :: rs, l, acc, h => by
    simp only [aresults, res2] at h
    split at h <;> try (cases h; done)
    rename_i z l' hz hl
    simp only [Option.some.injEq] at h
    subst h
    obtain ⟨r, q1, q2⟩ := load_addr hz I (hf b)
    obtain ⟨vs, h1, h2⟩ := run_results I hf rs l' (acc.push r) hl
    refine ⟨r :: vs, ?_, by simp [h2.1], fun i a v p1 p2 => ?_⟩
    · have e0 : (resVar tmps (.cell b t)).run P w = .ok r w := q1
      simp only [List.foldlM_cons, Sem.run_bind, e0, Sem.run_pure, Result.andThen_ok, h1]
      congr 1
      apply Array.toList_inj.1
      simp
    · cases i with
      | zero => simp only [List.getElem?_cons_zero, Option.some.injEq] at p1 p2; subst p1 p2; exact q2
      | succ i => exact h2.2 i a v (by simpa using p1) (by simpa using p2)

theorem results_sound {fn : Func} {fr : AFr} {tmps : Array Value} {l : List AV} (I : Inv w F A m H) (hf : RF w F A m fr tmps) (h : aresults P fr H fn.results.toList = some l) :
    ∃ v, (results fn tmps).run P w = .ok v w ∧ RV w F A m (mkRes l) v ∧ ∃ vs : List Value, RL w F A m l vs ∧ v = mkVal vs := by
  obtain ⟨vs, h1, h2⟩ := run_results I hf fn.results.toList l #[] h
  have hm : (fn.results.mapM (resVar tmps) : Sem (Array Value)).run P w = .ok vs.toArray w := by
    rw [Array.mapM_eq_foldlM, ← Array.foldlM_toList]
    simpa using h1
  have e0 : results fn tmps = (do let vs ← fn.results.mapM (resVar tmps); pure (if h : vs.size = 1 then vs[0] else .tuple vs)) := rfl
  have hrun : (results fn tmps).run P w = .ok (if h : vs.toArray.size = 1 then vs.toArray[0] else .tuple vs.toArray) w := by
    rw [e0, Sem.run_bind, hm]
    rfl
  refine ⟨_, hrun, ?_, vs, h2, ?_⟩
  · match l, vs, h2 with
    | [a], [v], h2 => simpa [mkRes] using h2.2 0 a v rfl rfl
    | [], [], h2 => exact .tup [] #[] rfl (by simp)
    | [], _ :: _, h2 => have := h2.1; simp at this
    | _ :: _, [], h2 => have := h2.1; simp at this
    | [_], _ :: _ :: _, h2 => have := h2.1; simp at this
    | _ :: _ :: _, [_], h2 => have := h2.1; simp at this
    | a :: b :: l, v :: u :: vs, h2 =>
      have : (v :: u :: vs).toArray.size ≠ 1 := by simp
      rw [dif_neg this]
      exact .tup _ _ (by simpa using h2.1) (fun i x y q1 q2 => h2.2 i x y q1 (by simpa using q2))
  · match vs with
    | [] => simp [mkVal]
    | [v] => simp [mkVal]
    | _ :: _ :: _ => simp [mkVal]

theorem arun_sound (hC : Tab.Sound P C) (hm : P.follows .mixedOrders = true) (D : Draws P C) (K : Nat → List Nat) {f : FuncId} {fn : Func} {c : Code} (hf : P.funcs[f]? = some fn) (hb : fn.body = some c) (hok : codeOk fn.ntmps c = true)
    {args : List AV} {vs : Array Value} {rs : List AV} {H' : AHeap} (h : arun P C D K fn c args H = some (rs, H')) (I : Inv w F (Nx H) m H) (ha : RLs w F (Nx H) m args vs) :
    Calls P f vs w fun e w' => ∃ us : List Value, e = .returned (mkVal us) ∧ ∃ F' m', Inv w' F' (Nx H') m' H' ∧ RL w' F' (Nx H') m' rs us ∧ Evo w F (Nx H) m H w' F' (Nx H') m' H' := by
  unfold arun at h
  split at h <;> try (cases h; done)
  rename_i hlen
  have hvs : vs.size = args.length := by have := ha.1; simp at this; omega
  refine calls_of_wp hf hb ?_
  have hS : St fn.ntmps w F m (args0 args) H { tmps := vs ++ Array.replicate (fn.ntmps - vs.size) undef, defers := [] } :=
    ⟨I, args0_rf ha, by simp [hvs]; omega, rfl⟩
  unfold afin afinR at h
  have fin : ∀ {e : AEx} {fr : AFr} {H1 : AHeap}, acode P C D K c (args0 args) H = some (e, fr, H1) → (e = .normal ∨ e = .ret) → (match aresults P fr H1 fn.results.toList with | some l => some (l, H1) | none => none) = some (rs, H') →
      c.wp P (bodyPost P fn fun e w' => ∃ us : List Value, e = .returned (mkVal us) ∧ ∃ F' m', Inv w' F' (Nx H') m' H' ∧ RL w' F' (Nx H') m' rs us ∧ Evo w F (Nx H) m H w' F' (Nx H') m' H')
        { tmps := vs ++ Array.replicate (fn.ntmps - vs.size) undef, defers := [] } w := by
    intro e fr H1 h1 he h2
    split at h2 <;> try (cases h2; done)
    rename_i l hl
    simp only [Option.some.injEq, Prod.mk.injEq] at h2
    obtain ⟨rfl, rfl⟩ := h2
    refine wp_mono (acode_sound hC hm D K c hok (args0 args) H e fr H1 h1 w F m _ hS) ?_
    rintro ex a w' ⟨rfl, F', m', S', E'⟩
    obtain ⟨v, q1, q2, us, q3, q4⟩ := results_sound S'.inv S'.fr hl
    rcases he with rfl | rfl
    · exact ⟨S'.defers, v, q1, us, by rw [q4], F', m', S'.inv, q3, E'⟩
    · exact ⟨S'.defers, v, q1, us, by rw [q4], F', m', S'.inv, q3, E'⟩
  split at h
  · rename_i fr H1 h1; exact fin h1 (.inl rfl) h
  · rename_i fr H1 h1; exact fin h1 (.inr rfl) h
  · cases h

theorem mkRes_rv {rs : List AV} {us : List Value} (h : RL w F A m rs us) : RV w F A m (mkRes rs) (mkVal us) := by
  match rs, us, h with
  | [a], [v], h => exact h.2 0 a v rfl rfl
  | [], [], h => exact .tup [] #[] rfl (by simp)
  | [], _ :: _, h => have := h.1; simp at this
  | _ :: _, [], h => have := h.1; simp at this
  | [_], _ :: _ :: _, h => have := h.1; simp at this
  | _ :: _ :: _, [_], h => have := h.1; simp at this
  | a :: b :: l, v :: u :: vs, h => exact .tup _ _ (by simpa using h.1) (fun i x y q1 q2 => h.2 i x y q1 (by simpa using q2))

theorem inv_empty (hb : ∀ cb, F cb → cb < w.heap.size) : Inv w F (Nx AHeap.empty) id AHeap.empty where
  own := fun b blk h => by simp [AHeap.empty] at h
  blk := fun b blk h => by simp [AHeap.empty] at h
  inj := fun b b' x y h => by simp [AHeap.empty] at h
  bound := hb

/-- A FUNCTION, BY ITS TEXT: what it answers. -/
theorem sound_pure (hC : Tab.Sound P C) (hm : P.follows .mixedOrders = true) (D : Draws P C) (K : Nat → List Nat) {f : FuncId} {fn : Func} {c : Code} (hf : P.funcs[f]? = some fn) (hb : fn.body = some c) (hok : codeOk fn.ntmps c = true) (hcl : Callable P f) :
    Sound P f (.pure false (pureOf P C D K fn c)) := by
  refine ⟨hcl, fun args r h w F vs hF ha => ?_⟩
  unfold pureOf closeUp closeUpR at h
  split at h <;> try (cases h; done)
  rename_i rs H' l hrun hl
  split at h <;> try (cases h; done)
  rename_i rs' S hfr
  simp only [Option.some.injEq] at h
  subst h
  have hno : Nx AHeap.empty = fun _ => False := by funext b; simp [Nx, AHeap.empty]
  refine (arun_sound hC hm D K hf hb hok hrun (inv_empty hF) (by rw [hno]; exact ha)).mono ?_
  rintro e w' ⟨us, rfl, F', m', I', hr, E⟩
  have hown : ∀ b blk, H'.get b = some blk → w.heap.size ≤ m' b := fun b blk h => by
    rcases E.owns b blk h with ⟨b0, x, h0, _⟩ | h
    · simp [AHeap.empty] at h0
    · exact h
  obtain ⟨q1, q2⟩ := frzArgs_sound I' l rs rs' S us hfr hr
  have hr' : RL w' F (fun _ => False) id rs' us := ⟨q1.1, fun i a v h1 h2 => (q1.2 i a v h1 h2).mono (Nat.le_refl _) (fun _ _ => rfl) (fun _ _ _ => rfl)
    (fun cb _ hcb => ⟨E.keep cb (hF cb hcb) hcb (fun b blk h => by simp [AHeap.empty] at h), fun b hb he => by
      obtain ⟨blk, hblk⟩ := q2 b hb
      have := hown b blk hblk
      have := hF cb hcb
      omega⟩) (fun _ h => h.elim)⟩
  exact ⟨_, rfl, ⟨E.os, E.tape, E.output, E.size, fun k hk => E.same k hk (fun b blk h => by simp [AHeap.empty] at h)⟩, RV.mono (w := w') (F := F) (A := fun _ => False) (m := id) (mkRes_rv hr') (Nat.le_refl _) (fun _ _ => rfl) (fun _ _ _ => rfl) (fun _ _ h => h.resolve_right (by simp)) (fun _ h => h.elim)⟩

/-- What bears no slice but ones that were made here. -/
def copyCell (H : AHeap) : AV → Bool
  | .sl b _ _ _ => match H.get b with | some blk => blk.rows.all fun row => row.all AV.noSlC | none => false
  | .rsl _ [] | .esl _ | .nils => true
  | a => a.noSlC

def copyUpR (l : Option (List (List (Option Nat)))) (x : Option (List AV × AHeap)) : Option AV :=
  match x with
  | some (rs, H') => if rs.all (copyCell H') = true then closeUpR l (some (rs, H')) else none
  | none => none

/-- A function that answers with a copy. -/
noncomputable def copyOf (P : Program) (C : Tab) (D : Draws P C) (K : Nat → List Nat) (fn : Func) (c : Code) (args : List AV) : Option AV :=
  copyUpR (tysOf P fn.resultTypes.toList) (arun P C D K fn c args AHeap.empty)

theorem frzCell_copy {n : Option Nat} {a a' : AV} {S : List Nat} {v : Value} {k : Nat} (h : frzCell H n a = some (a', S)) (hc : copyCell H a = true) (I : Inv w F A m H) (hx : RV w F A m a v)
    (hk : ∀ b blk, H.get b = some blk → k ≤ m b) : RV w (fun cb => cb < k) (fun _ => False) id a' v := by
  have simple : a.noSlC = true → a' = a → RV w (fun cb => cb < k) (fun _ => False) id a' v := by
    rintro h1 rfl
    cases hx <;> first | (simp [AV.noSlC] at h1; done) | constructor
  cases a
  case sl b sz off len =>
    simp only [copyCell] at hc
    split at hc <;> try (cases hc; done)
    rename_i blk hb
    have hbA := I.own b blk hb
    have I1 : Inv w (fun cb => cb < w.heap.size) A m { next := H.next, get := fun j => if j = b then some blk else none } := by
      refine ⟨fun b' x hx => ?_, fun b' x hx => ?_, fun b1 b2 x y h1 h2 _ => ?_, fun _ h => h⟩
      · dsimp only at hx
        split at hx <;> try (cases hx; done)
        rename_i e; subst e
        exact ⟨hbA.1, I.bound _ hbA.2⟩
      · have hx' : b' = b ∧ x = blk := by
          dsimp only at hx
          split at hx
          · rename_i e; exact ⟨e, by simpa using hx.symm⟩
          · cases hx
        obtain ⟨rfl, rfl⟩ := hx'
        obtain ⟨c, h1, h2⟩ := I.blk _ _ hb
        refine ⟨c, h1, h2.fits, h2.wide, h2.flat, fun i row j a p1 p2 => ?_⟩
        obtain ⟨u, q1, q2, q3⟩ := h2.cell i row j a p1 p2
        have hns := List.all_eq_true.1 (List.all_eq_true.1 hc row (List.mem_of_getElem? p1)) a (List.mem_of_getElem? p2)
        refine ⟨u, q1, q2, ?_⟩
        cases q3 <;> first | (simp [AV.noSlC] at hns; done) | constructor
      · dsimp only at h1 h2
        split at h1 <;> try (cases h1; done)
        split at h2 <;> try (cases h2; done)
        omega
    have hfr : frzCell { next := H.next, get := fun j => if j = b then some blk else none } n (.sl b sz off len) = some (a', S) := by
      rw [← h]; simp [frzCell, hb]
    have hx1 : RV w (fun cb => cb < w.heap.size) A m (.sl b sz off len) v := by
      cases hx; constructor <;> assumption
    obtain ⟨q1, q2, q3⟩ := frzCell_sound hfr I1 hx1
    have hS : S = [b] := by
      simp only [frzCell, hb] at h
      split at h <;> try (cases h; done)
      simp only [Option.some.injEq, Prod.mk.injEq] at h
      exact h.2.symm
    subst hS
    refine (q1.mono (F' := fun cb => cb < k) (Nat.le_refl _) (fun _ _ => rfl) (fun _ _ _ => rfl) (fun cb h1 h2 => ⟨h1, fun b' hb' e => ?_⟩) (fun _ h => ⟨h, rfl⟩)).flat_any q2
    simp only [List.mem_singleton] at hb'
    subst hb'
    have := hk b' blk hb
    omega
  case nils =>
    cases hx
    simp only [frzCell] at h
    split at h <;> simp only [Option.some.injEq, Prod.mk.injEq] at h
    · rw [← h.1]; exact .rsl0 _ _ _ fun _ => rfl
    · rw [← h.1]; exact .nils
  case esl sz =>
    cases hx
    simp only [frzCell, Option.some.injEq, Prod.mk.injEq] at h
    rw [← h.1]; exact .rsl0 _ _ _ fun h => by cases h
  case rsl sz rows =>
    cases rows with
    | cons r rs => simp [copyCell, AV.noSlC] at hc
    | nil =>
      simp only [frzCell, AV.flat, if_true, Option.some.injEq, Prod.mk.injEq] at h
      rw [← h.1]
      cases hx with
      | rsl0 _ _ _ h0 => exact .rsl0 _ _ _ h0
      | rsl _ _ _ _ cap => exact .rsl0 _ _ _ fun h => by cases h
  all_goals
    simp only [copyCell] at hc
    simp only [frzCell, AV.flat] at h
    simp at h
    try exact simple hc h.1.symm

theorem frzArgs_copy {k : Nat} (I : Inv w F A m H) (hk : ∀ b blk, H.get b = some blk → k ≤ m b) : ∀ (l : List (List (Option Nat))) (cs cs' : List AV) (S : List Nat) (vs : List Value), frzArgs H l cs = some (cs', S) → cs.all (copyCell H) = true → RL w F A m cs vs →
    RL w (fun cb => cb < k) (fun _ => False) id cs' vs
  | [], [], cs', S, vs, h, _, hr => by
    simp only [frzArgs, Option.some.injEq, Prod.mk.injEq] at h
    rw [← h.1]
    exact ⟨hr.1, by simp⟩
  | [], _ :: _, _, _, _, h, _, _ => by simp [frzArgs] at h
  | _ :: _, [], _, _, _, h, _, _ => by simp [frzArgs] at h
  | n :: l, a :: cs, cs', S, [], h, _, hr => by have := hr.1; simp at this
  | n :: l, a :: cs, cs', S, v :: vs, h, hc, hr => by
    simp only [frzArgs] at h
    split at h <;> try (cases h; done)
    rename_i a' S1 cs1 S2 h1 h2
    simp only [Option.some.injEq, Prod.mk.injEq] at h
    obtain ⟨rfl, rfl⟩ := h
    simp only [List.all_cons, Bool.and_eq_true] at hc
    have hfc : frzCell H (n.headD none) a = some (a', S1) := by
      unfold frz at h1
      split at h1
      · simp [copyCell, AV.noSlC] at hc
      · exact h1
    have q := frzCell_copy hfc hc.1 I (hr.2 0 a v rfl rfl) hk
    have p := frzArgs_copy I hk l cs cs1 S2 vs h2 hc.2 ⟨by simpa using hr.1, fun i a v h1 h2 => hr.2 (i + 1) a v (by simpa using h1) (by simpa using h2)⟩
    refine ⟨by simp [p.1], fun i b u h3 h4 => ?_⟩
    cases i with
    | zero => simp at h3 h4; subst h3 h4; exact q
    | succ i => exact p.2 i b u (by simpa using h3) (by simpa using h4)

/-- A FUNCTION, BY ITS TEXT: a copy. -/
theorem sound_copy (hC : Tab.Sound P C) (hm : P.follows .mixedOrders = true) (D : Draws P C) (K : Nat → List Nat) {f : FuncId} {fn : Func} {c : Code} (hf : P.funcs[f]? = some fn) (hb : fn.body = some c) (hok : codeOk fn.ntmps c = true) (hcl : Callable P f) :
    Sound P f (.pure true (copyOf P C D K fn c)) := by
  refine ⟨hcl, fun args r h w F vs hF ha => ?_⟩
  unfold copyOf copyUpR at h
  split at h <;> try (cases h; done)
  rename_i rs H' hrun
  split at h <;> try (cases h; done)
  rename_i hcp
  unfold closeUpR at h
  split at h <;> try (cases h; done)
  rename_i rs0 H0 l hrl hl
  simp only [Option.some.injEq, Prod.mk.injEq] at hrl
  obtain ⟨rfl, rfl⟩ := hrl
  split at h <;> try (cases h; done)
  rename_i rs' S hfr
  simp only [Option.some.injEq] at h
  subst h
  have hno : Nx AHeap.empty = fun _ => False := by funext b; simp [Nx, AHeap.empty]
  refine (arun_sound hC hm D K hf hb hok hrun (inv_empty hF) (by rw [hno]; exact ha)).mono ?_
  rintro e w' ⟨us, rfl, F', m', I', hr, E⟩
  have hown : ∀ b blk, H'.get b = some blk → w.heap.size ≤ m' b := fun b blk h => by
    rcases E.owns b blk h with ⟨b0, x, h0, _⟩ | h
    · simp [AHeap.empty] at h0
    · exact h
  have q := frzArgs_copy I' hown l rs rs' S us hfr hcp hr
  refine ⟨_, rfl, ⟨E.os, E.tape, E.output, E.size, fun k hk => E.same k hk (fun b blk h => by simp [AHeap.empty] at h)⟩, ?_⟩
  exact RV.mono (w := w') (F := fun cb => cb < w.heap.size) (A := fun _ => False) (m := id) (mkRes_rv q) (Nat.le_refl _) (fun _ _ => rfl) (fun _ _ _ => rfl) (fun cb _ h => h.elim (hF cb) (fun h => h.2)) (fun _ h => h.elim)

theorem sound_ref (hC : Tab.Sound P C) (hm : P.follows .mixedOrders = true) (D : Draws P C) (K : Nat → List Nat) {f : FuncId} {fn : Func} {c : Code} (hf : P.funcs[f]? = some fn) (hb : fn.body = some c) (hok : codeOk fn.ntmps c = true) (hcl : Callable P f) (fz : List Bool) :
    Sound P f (.ref fz (refOf P C D K fn c)) := by
  refine ⟨hcl, fun args H r H' h w F m vs I ha => ?_⟩
  unfold refOf raw at h
  split at h <;> try (cases h; done)
  rename_i rs H1 hrun
  simp only [Option.some.injEq, Prod.mk.injEq] at h
  obtain ⟨rfl, rfl⟩ := h
  refine (arun_sound hC hm D K hf hb hok hrun I ha).mono ?_
  rintro e w' ⟨us, rfl, F', m', I', hr, E⟩
  exact ⟨_, F', m', rfl, I', mkRes_rv hr, E⟩

/-- The blocks that a value refers to. -/
theorem RV.fewer {A' : Nat → Prop} {a : AV} {v : Value} {n : Nat} (h : RV w F A m a v) (hi : idsBelow n a = true) (hA : ∀ b, b < n → A' b) : RV w F A' m a v := by
  cases h with
  | ptr b sz i j _ => exact .ptr b sz i j (hA b (by simpa [idsBelow] using hi))
  | sl b sz off len cap e _ hc hm hs => exact .sl b sz off len cap e (hA b (by simpa [idsBelow] using hi)) hc hm hs
  | undef v => exact .undef v
  | int k n => exact .int k n
  | bool b => exact .bool b
  | str s => exact .str s
  | nilp => exact .nilp
  | nils => exact .nils
  | nilf => exact .nilf
  | esl sz a cap => exact .esl sz a cap
  | rsl0 sz a cap h0 => exact .rsl0 sz a cap h0
  | rsl sz rows cb co cap val hF hb hc hr hfl hv hrv => exact (RV.rsl (A := A) (m := m) sz rows cb co cap val hF hb hc hr hfl hv hrv).flat_any rfl
  | agg => simp [idsBelow, AV.flat] at hi
  | tup => simp [idsBelow, AV.flat] at hi
  | rptr => simp [idsBelow, AV.flat] at hi
  | clo => simp [idsBelow, AV.flat] at hi

/-- What it refers to, in one world, it refers to in all. -/
theorem RV.back {w' : World} {F' A' : Nat → Prop} {m' : Nat → Nat} {a : AV} {v v' : Value} (h : RV w F A m a v) (h' : RV w' F' A' m' a v') : RV w' F' A m' a v' := by
  induction h generalizing v' with
  | undef v => exact .undef _
  | int k n => cases h'; exact .int k n
  | bool b => cases h'; exact .bool b
  | str s => cases h'; exact .str s
  | nilp => cases h'; exact .nilp
  | nils => cases h'; exact .nils
  | nilf => cases h'; exact .nilf
  | ptr b sz i j hA => cases h'; exact .ptr b sz i j hA
  | sl b sz off len cap e hA _ _ _ => cases h' with
    | sl _ _ _ _ cap e _ hc hm hs => exact .sl b sz off len cap e hA hc hm hs
  | esl sz a cap => cases h'; exact .esl _ _ _
  | rsl0 sz a cap h0 => cases h' with
    | rsl0 _ _ _ h0' => exact .rsl0 _ _ _ h0'
    | rsl sz rows cb co cap val hF hb hc hr hfl hv hrv => exact (RV.rsl (A := A') (m := m') sz _ cb co cap val hF hb hc hr hfl hv hrv).flat_any rfl
  | rsl sz rows cb co cap val hF hb hc hr hfl hv hrv ih => exact h'.flat_any rfl
  | rptr sz rows i0 j0 cb co val hF hb hr hfl hv hrv ih => cases h' with
    | rptr sz rows i0 j0 cb' co' val' hF' hb' hr' hfl' hv' hrv' =>
      exact .rptr sz rows i0 j0 cb' co' val' hF' hb' hr' hfl' hv' fun i row j a h1 h2 => ih i row j a h1 h2 (hrv' i row j a h1 h2)
  | agg cs vs hl hc ih => cases h' with
    | agg _ vs' hl' hc' =>
      refine .agg _ _ hl' fun i a v q1 q2 => ?_
      · have hi : i < vs.size := by rw [← hl]; exact (List.getElem?_eq_some_iff.1 q1).1
        exact ih i a vs[i] q1 (by simp [hi]) (hc' i a v q1 q2)
  | tup cs vs hl hc ih => cases h' with
    | tup _ vs' hl' hc' =>
      refine .tup _ _ hl' fun i a v q1 q2 => ?_
      · have hi : i < vs.size := by rw [← hl]; exact (List.getElem?_eq_some_iff.1 q1).1
        exact ih i a vs[i] q1 (by simp [hi]) (hc' i a v q1 q2)
  | clo f first caps vs us hl hl' h1 h2 ih ih' => cases h' with
    | clo _ _ _ vs' us' hl1 hl2 p1 p2 =>
      exact .clo f first caps vs' us' hl1 hl2
        (fun i a v q1 q2 => by
          have hi : i < vs.size := by rw [← hl]; exact (List.getElem?_eq_some_iff.1 q1).1
          exact ih i a vs[i] q1 (by simp [hi]) (p1 i a v q1 q2))
        (fun i a v q1 q2 => by
          have hi : i < us.size := by rw [← hl']; exact (List.getElem?_eq_some_iff.1 q1).1
          exact ih' i a us[i] q1 (by simp [hi]) (p2 i a v q1 q2))

theorem sound_refT (hC : Tab.Sound P C) (hm : P.follows .mixedOrders = true) (D : Draws P C) (K : Nat → List Nat) {f : FuncId} {fn : Func} {c : Code} (hf : P.funcs[f]? = some fn) (hb : fn.body = some c) (hok : codeOk fn.ntmps c = true) (hcl : Callable P f) (fz : List Bool) :
    Sound P f (.ref fz (refT P C D K fn c)) := by
  refine ⟨hcl, fun args H r H' h w F m vs I ha => ?_⟩
  unfold refT forget at h
  split at h <;> try (cases h; done)
  rename_i rs H1 hrun
  split at h <;> try (cases h; done)
  rename_i hok2
  obtain ⟨hcd, htr, hnx⟩ := hok2
  simp only [Option.some.injEq, Prod.mk.injEq] at h
  obtain ⟨rfl, rfl⟩ := h
  refine (arun_sound hC hm D K hf hb hok hrun I ha).mono ?_
  rintro e w' ⟨us, rfl, F', m', I', hr, E⟩
  have hN : Nx (H1.trunc H.next) = Nx H := rfl
  have hg : ∀ b x, (H1.trunc H.next).get b = some x → b < H.next ∧ H1.get b = some x := fun b x h => by
    simp only [AHeap.trunc] at h
    split at h
    · rename_i hb; exact ⟨hb, h⟩
    · cases h
  refine ⟨_, F', m', rfl, ⟨fun b x h => ?_, fun b x h => ?_, fun b b' x y h h' => ?_, I'.bound⟩, (mkRes_rv hr).closed_any hcd,
    ⟨E.os, E.tape, E.output, E.size, E.shape, E.same, E.forb, E.keep, fun b hb => ⟨hb, (E.ext b hb).2⟩, fun b x h => E.owns b x (hg b x h).2⟩⟩
  · obtain ⟨h1, h2⟩ := hg b x h
    exact ⟨h1, (I'.own b x h2).2⟩
  · obtain ⟨h1, h2⟩ := hg b x h
    obtain ⟨c', hc', hr'⟩ := I'.blk b x h2
    refine ⟨c', hc', hr'.fits, hr'.wide, hr'.flat, fun i row j a p1 p2 => ?_⟩
    obtain ⟨v, q1, q2, q3⟩ := hr'.cell i row j a p1 p2
    refine ⟨v, q1, q2, ?_⟩
    rcases htr b h1 with he | he
    · rw [h2] at he
      obtain ⟨c0, _, hr0⟩ := I.blk b x he.symm
      obtain ⟨v0, _, _, q0⟩ := hr0.cell i row j a p1 p2
      exact q0.back q3
    · exact q3.fewer (he x h2 row (List.mem_of_getElem? p1) a (List.mem_of_getElem? p2)) (fun b hb => hb)
  · exact I'.inj b b' x y (hg b x h).2 (hg b' y h').2
end
end Go.Abs
