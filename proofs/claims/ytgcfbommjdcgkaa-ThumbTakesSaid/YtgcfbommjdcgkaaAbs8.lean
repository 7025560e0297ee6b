/-
  Code; functions.
-/
import Derived.Test.YtgcfbommjdcgkaaAbs7
set_option linter.unusedSimpArgs false
set_option linter.unusedVariables false
namespace Go.Abs

inductive AEx where
  | normal
  | exit (id : Nat)
  | ret

abbrev ARes := Option (AEx × AFr × AHeap)

def aiter (f : AFr → AHeap → ARes) : Nat → AFr → AHeap → ARes
  | 0, _, _ => none
  | n + 1, fr, H => match f fr H with
    | some (.normal, fr', H') => aiter f n fr' H'
    | r => r

open Classical in
/-- What a loop comes to, if it comes to an end. -/
noncomputable def aloop (f : AFr → AHeap → ARes) (fr : AFr) (H : AHeap) : ARes :=
  if h : ∃ r n, aiter f n fr H = some r then some h.choose else none

theorem aiter_mono {f : AFr → AHeap → ARes} : ∀ {n : Nat} {fr : AFr} {H : AHeap} {r : AEx × AFr × AHeap} (k : Nat), aiter f n fr H = some r → aiter f (n + k) fr H = some r
  | 0, _, _, _, _, h => by simp [aiter] at h
  | n + 1, fr, H, r, k, h => by
    rw [show n + 1 + k = (n + k) + 1 from by omega]
    simp only [aiter] at h ⊢
    split at h
    · exact aiter_mono k h
    · exact h

theorem aloop_of_iter {f : AFr → AHeap → ARes} {n : Nat} {fr : AFr} {H : AHeap} {r : AEx × AFr × AHeap} (h : aiter f n fr H = some r) : aloop f fr H = some r := by
  have hex : ∃ r n, aiter f n fr H = some r := ⟨r, n, h⟩
  unfold aloop
  rw [dif_pos hex]
  obtain ⟨k, hk⟩ := hex.choose_spec
  have h1 := aiter_mono k h
  have h2 := aiter_mono n hk
  rw [Nat.add_comm] at h2
  rw [h1] at h2
  exact h2.symm

theorem iter_of_aloop {f : AFr → AHeap → ARes} {fr : AFr} {H : AHeap} {r : AEx × AFr × AHeap} (h : aloop f fr H = some r) : ∃ n, aiter f n fr H = some r := by
  unfold aloop at h
  split at h
  · rename_i hex
    simp only [Option.some.injEq] at h
    exact h ▸ hex.choose_spec
  · cases h

theorem aloop_eq (f : AFr → AHeap → ARes) (fr : AFr) (H : AHeap) : aloop f fr H = match f fr H with
    | some (.normal, fr', H') => aloop f fr' H'
    | r => r := by
  cases hf : f fr H with
  | none =>
    dsimp only
    cases h : aloop f fr H with
    | none => rfl
    | some r =>
      obtain ⟨n, hn⟩ := iter_of_aloop h
      cases n with
      | zero => simp [aiter] at hn
      | succ n => simp [aiter, hf] at hn
  | some x =>
    obtain ⟨e, fr', H'⟩ := x
    cases e
    case normal =>
      dsimp only
      cases h : aloop f fr' H' with
      | some r =>
        obtain ⟨n, hn⟩ := iter_of_aloop h
        exact aloop_of_iter (n := n + 1) (by simp [aiter, hf, hn])
      | none =>
        cases h2 : aloop f fr H with
        | none => rfl
        | some r =>
          obtain ⟨n, hn⟩ := iter_of_aloop h2
          cases n with
          | zero => simp [aiter] at hn
          | succ n =>
            simp only [aiter, hf] at hn
            rw [aloop_of_iter hn] at h
            cases h
    all_goals exact aloop_of_iter (n := 1) (by simp [aiter, hf])

/-- How a loop is reasoned about: what holds at its head, and what goes down. -/
theorem aloop_rule {f : AFr → AHeap → ARes} (I : AFr → AHeap → Prop) (μ : AFr → AHeap → Nat) (Q : AEx → AFr → AHeap → Prop)
    (hr : ∀ fr H, I fr H → ∃ e fr' H', f fr H = some (e, fr', H') ∧ ((e = .normal ∧ I fr' H' ∧ μ fr' H' < μ fr H) ∨ (e ≠ .normal ∧ Q e fr' H'))) :
    ∀ fr H, I fr H → ∃ e fr' H', aloop f fr H = some (e, fr', H') ∧ Q e fr' H' := by
  have key : ∀ n fr H, μ fr H = n → I fr H → ∃ e fr' H', aloop f fr H = some (e, fr', H') ∧ Q e fr' H' := by
    intro n
    induction n using Nat.strongRecOn with
    | _ n ih =>
      intro fr H hn hI
      obtain ⟨e, fr', H', h1, h2⟩ := hr fr H hI
      rw [aloop_eq, h1]
      rcases h2 with ⟨rfl, h3, h4⟩ | ⟨h3, h4⟩
      · exact ih _ (hn ▸ h4) fr' H' rfl h3
      · exact ⟨e, fr', H', by cases e <;> first | rfl | exact absurd rfl h3, h4⟩
  exact fun fr H h => key _ fr H rfl h

def aexit (id : Nat) : ARes → ARes
  | some (.exit k, fr, H) => if k = id then some (.normal, fr, H) else some (.exit k, fr, H)
  | r => r

def aseq (r : ARes) (k : AFr → AHeap → ARes) : ARes :=
  match r with
  | some (.normal, fr, H) => k fr H
  | r => r

def acond (v : AV) (x y : ARes) : ARes :=
  match v with
  | .bool t => if t then x else y
  | _ => none

def areg (r : Option (AFr × AHeap)) : ARes :=
  match r with
  | some (fr, H) => some (.normal, fr, H)
  | none => none

/-- A region that draws its order: what stands in for it, and what must hold of it. -/
structure Draws (P : Program) (C : Tab) where
  run : Array Oper → List Nat → AFr → AHeap → Option (AFr × AHeap)
  sound : Tab.Sound P C → ∀ (ops : Array Oper) (l : List Nat) (fr : AFr) (H : AHeap) (fr' : AFr) (H' : AHeap), run ops l fr H = some (fr', H') →
    ∀ (w : World) (F : Nat → Prop) (m : Nat → Nat) (a : Act) (n : Nat), ops.toList.all (dstOk n) = true → Inv w F (Nx H) m H → RF w F (Nx H) m fr a.tmps → a.tmps.size = n → a.defers = [] → P.follows .mixedOrders = true →
    ∀ (Q : Exit → Act → World → Prop), (∀ a' w' F' m', Inv w' F' (Nx H') m' H' → RF w' F' (Nx H') m' fr' a'.tmps → a'.tmps.size = n → a'.defers = [] → Evo w F (Nx H) m H w' F' (Nx H') m' H' → Q .normal a' w') →
    wpAny P .any ops Q ops.size (Array.replicate ops.size false) a w

noncomputable def acode (P : Program) (C : Tab) (D : Draws P C) (K : Nat → List Nat) : Code → AFr → AHeap → ARes
  | .skip, fr, H => some (.normal, fr, H)
  | .region id ops draw, fr, H => if draw then areg (D.run ops (K id) fr H) else areg (aops P C ops (K id) ops.toList fr H)
  | .seq a b, fr, H => aseq (acode P C D K a fr H) (acode P C D K b)
  | .cond c a b, fr, H => acond (fr.eval c) (acode P C D K a fr H) (acode P C D K b fr H)
  | .block id b, fr, H => aexit id (acode P C D K b fr H)
  | .loop b, fr, H => aloop (acode P C D K b) fr H
  | .exit id, fr, H => some (.exit id, fr, H)
  | .ret, fr, H => some (.ret, fr, H)
  | _, _, _ => none

def codeOk (n : Nat) : Code → Bool
  | .region _ ops _ => ops.toList.all (dstOk n)
  | .seq a b => codeOk n a && codeOk n b
  | .cond _ a b => codeOk n a && codeOk n b
  | .block _ b => codeOk n b
  | .loop b => codeOk n b
  | _ => true

def AEx.toExit : AEx → Exit
  | .normal => .normal
  | .exit id => .exit id
  | .ret => .ret

section
variable {P : Program} {C : Tab}

/-- The state of an activation. -/
structure St (n : Nat) (w : World) (F : Nat → Prop) (m : Nat → Nat) (fr : AFr) (H : AHeap) (a : Act) : Prop where
  inv : Inv w F (Nx H) m H
  fr : RF w F (Nx H) m fr a.tmps
  size : a.tmps.size = n
  defers : a.defers = []

theorem St.only {n : Nat} {w : World} {F : Nat → Prop} {m : Nat → Nat} {fr : AFr} {H : AHeap} {a : Act} (S : St n w F m fr H a) (l : List Nat) : St n w F m (fr.only l) H a :=
  ⟨S.inv, fun t => by rcases AFr.only_or fr l t with h | h <;> rw [h]; exact S.fr t; exact .undef _, S.size, S.defers⟩

theorem guard_sound {ops : Array Oper} {fr : AFr} {o : Oper} {b : Bool} {w : World} {F A : Nat → Prop} {m : Nat → Nat} {a : Act} (h : aguard ops fr o = some b) (hf : RF w F A m fr a.tmps) :
    Region.wanted o (yielded ops a.tmps) = b := by
  unfold aguard at h
  unfold Region.wanted
  split at h
  · rename_i hg; rw [hg]; simpa using h
  · rename_i j want hg
    rw [hg]
    dsimp only
    split at h <;> try (cases h; done)
    rename_i t ht
    unfold gw at h
    have hv := hf t
    split at h <;> try (cases h; done)
    · rename_i x hx
      simp only [Option.some.injEq] at h
      rw [hx] at hv
      have hy : yielded ops a.tmps j = some x := by
        unfold yielded
        rw [ht]
        simp only [Option.bind_some]
        generalize hq : a.tmps.getD t undef = u at hv
        cases hv
        have : a.tmps[t]? = some (.bool x) := by
          rw [Array.getD_eq_getD_getElem?] at hq
          cases h : a.tmps[t]? with
          | none => rw [h] at hq; simp [undef] at hq
          | some u => rw [h] at hq; simpa using hq
        rw [this]
      rw [hy, ← h]
      cases x <;> cases want <;> rfl
    · rename_i hx
      simp only [Option.some.injEq] at h
      rw [hx] at hv
      have hy : yielded ops a.tmps j = none := by
        unfold yielded
        rw [ht]
        simp only [Option.bind_some]
        generalize hq : a.tmps.getD t undef = u at hv
        cases hv with
        | tup _ vs hl _ =>
          rw [Array.getD_eq_getD_getElem?] at hq
          cases h : a.tmps[t]? with
          | none => rfl
          | some u => rw [h] at hq; simp only [Option.getD_some] at hq; subst hq; rfl
      rw [hy, ← h]
      cases want <;> rfl

theorem RF.evo {w w' : World} {F F' A A' : Nat → Prop} {m m' : Nat → Nat} {H H' : AHeap} {fr : AFr} {t : Array Value} (hf : RF w F A m fr t) (I : Inv w F A m H) (E : Evo w F A m H w' F' A' m' H') : RF w' F' A' m' fr t :=
  fun i => E.rv I (hf i)

theorem size_put (a : Act) (d : Option Tmp) (v : Value) : (a.put d v).tmps.size = a.tmps.size := by cases d <;> simp [Act.put]
theorem defers_put (a : Act) (d : Option Tmp) (v : Value) : (a.put d v).defers = a.defers := by cases d <;> rfl

theorem aops_sound (hC : Tab.Sound P C) {n : Nat} {ops : Array Oper} (hd : ops.toList.all (dstOk n) = true) {Q : Exit → Act → World → Prop} {fr' : AFr} {H' : AHeap} {l : List Nat} :
    ∀ (rest : List Oper) (k : Nat) (fr : AFr) (H : AHeap) (w : World) (F : Nat → Prop) (m : Nat → Nat) (a : Act), rest = ops.toList.drop k → aops P C ops l rest fr H = some (fr', H') → St n w F m fr H a →
      (∀ a' w' F' m', St n w' F' m' fr' H' a' → Evo w F (Nx H) m H w' F' (Nx H') m' H' → Q .normal a' w') → wpOps P ops Q (List.range' k rest.length) a w
  | [], k, fr, H, w, F, m, a, _, h, S, hk => by
    simp only [aops, Option.some.injEq, Prod.mk.injEq] at h
    obtain ⟨rfl, rfl⟩ := h
    exact hk a w F m (S.only l) Evo.refl
  | o :: rest, k, fr, H, w, F, m, a, hrest, h, S, hk => by
    have ho : ops[k]? = some o := by
      have : ops.toList[k]? = some o := by
        have := congrArg List.head? hrest
        simpa [List.head?_drop] using this.symm
      simpa using this
    have hrest' : rest = ops.toList.drop (k + 1) := by
      have := congrArg List.tail hrest
      simpa [List.tail_drop] using this
    have hdo : ∀ d, o.dst = some d → d < a.tmps.size := fun d hd' => by
      have hmem : o ∈ ops.toList := List.mem_of_getElem? (by simpa using ho)
      have := List.all_eq_true.1 hd o hmem
      simp only [dstOk, hd', decide_eq_true_eq] at this
      rw [S.size]; exact this
    simp only [aops] at h
    simp only [List.length_cons, List.range'_succ, wpOps, ho]
    unfold op at h
    split at h <;> try (cases h; done)
    rename_i v H1 hst
    unfold astep gd at hst
    split at hst <;> try (cases hst; done)
    rename_i b hg
    rw [guard_sound hg S.fr]
    cases b
    · simp only [Bool.false_eq_true, if_false, Option.some.injEq, Prod.mk.injEq] at hst ⊢
      obtain ⟨rfl, rfl⟩ := hst
      exact aops_sound hC hd rest (k + 1) _ H w F m _ hrest' h ⟨S.inv, S.fr.put hdo .skip, by rw [size_put]; exact S.size, by rw [defers_put]; exact S.defers⟩ hk
    · simp only [if_true] at hst ⊢
      refine .inl (aop_sound hC hst S.inv S.fr fun r w' F1 m1 I1 hv E1 => ?_)
      exact aops_sound hC hd rest (k + 1) _ H1 w' F1 m1 _ hrest' h ⟨I1, (S.fr.evo S.inv E1).put hdo hv, by rw [size_put]; exact S.size, by rw [defers_put]; exact S.defers⟩
        fun a' w'' F' m' S' E' => hk a' w'' F' m' S' (E1.trans E')

theorem acode_sound (hC : Tab.Sound P C) (hm : P.follows .mixedOrders = true) (D : Draws P C) (K : Nat → List Nat) {n : Nat} : ∀ (c : Code), codeOk n c = true → ∀ (fr : AFr) (H : AHeap) (e : AEx) (fr' : AFr) (H' : AHeap), acode P C D K c fr H = some (e, fr', H') →
    ∀ (w : World) (F : Nat → Prop) (m : Nat → Nat) (a : Act), St n w F m fr H a → c.wp P (fun x a' w' => x = e.toExit ∧ ∃ F' m', St n w' F' m' fr' H' a' ∧ Evo w F (Nx H) m H w' F' (Nx H') m' H') a w
  | .skip, _, fr, H, e, fr', H', h, w, F, m, a, S => by
    simp only [acode, Option.some.injEq, Prod.mk.injEq] at h
    obtain ⟨rfl, rfl, rfl⟩ := h
    exact wp_skip ⟨rfl, F, m, S, Evo.refl⟩
  | .exit id, _, fr, H, e, fr', H', h, w, F, m, a, S => by
    simp only [acode, Option.some.injEq, Prod.mk.injEq] at h
    obtain ⟨rfl, rfl, rfl⟩ := h
    exact wp_exit ⟨rfl, F, m, S, Evo.refl⟩
  | .ret, _, fr, H, e, fr', H', h, w, F, m, a, S => by
    simp only [acode, Option.some.injEq, Prod.mk.injEq] at h
    obtain ⟨rfl, rfl, rfl⟩ := h
    exact wp_ret ⟨rfl, F, m, S, Evo.refl⟩
  | .region id ops draw, hok, fr, H, e, fr', H', h, w, F, m, a, S => by
    simp only [acode] at h
    cases draw
    · simp only [Bool.false_eq_true, if_false] at h
      unfold areg at h
      split at h <;> try (cases h; done)
      rename_i fr1 H1 h1
      simp only [Option.some.injEq, Prod.mk.injEq] at h
      obtain ⟨rfl, rfl, rfl⟩ := h
      refine wp_region ?_
      have := aops_sound hC hok (Q := fun x a' w' => x = AEx.normal.toExit ∧ ∃ F' m', St n w' F' m' fr1 H1 a' ∧ Evo w F (Nx H) m H w' F' (Nx H1) m' H1) ops.toList 0 fr H w F m a (by simp) h1 S
        (fun a' w' F' m' S' E' => ⟨rfl, F', m', S', E'⟩)
      rw [List.range_eq_range']
      simpa using this
    · simp only [if_true] at h
      unfold areg at h
      split at h <;> try (cases h; done)
      rename_i fr1 H1 h1
      simp only [Option.some.injEq, Prod.mk.injEq] at h
      obtain ⟨rfl, rfl, rfl⟩ := h
      refine wp_region_any hm ?_
      refine D.sound hC ops (K id) fr H fr1 H1 h1 _ F m a n hok (Inv.drew S.inv) (fun t => (S.fr t).drew) S.size S.defers hm _ ?_
      intro a' w' F' m' I' hf' hs' hd' E'
      exact ⟨rfl, F', m', St.mk I' hf' hs' hd', Evo.trans Evo.drew E'⟩
  | .seq x y, hok, fr, H, e, fr', H', h, w, F, m, a, S => by
    simp only [codeOk, Bool.and_eq_true] at hok
    simp only [acode] at h
    cases hx : acode P C D K x fr H with
    | none => rw [hx] at h; simp [aseq] at h
    | some r =>
      obtain ⟨e1, fr1, H1⟩ := r
      rw [hx] at h
      have ihx := acode_sound hC hm D K x hok.1 fr H e1 fr1 H1 hx w F m a S
      refine wp_seq (wp_mono ihx ?_)
      rintro ex a1 w1 ⟨rfl, F1, m1, S1, E1⟩
      cases e1
      case normal =>
        simp only [aseq] at h
        refine wp_mono (acode_sound hC hm D K y hok.2 fr1 H1 e fr' H' h w1 F1 m1 a1 S1) ?_
        rintro ex a2 w2 ⟨rfl, F2, m2, S2, E2⟩
        exact ⟨rfl, F2, m2, S2, E1.trans E2⟩
      all_goals
        simp only [aseq, Option.some.injEq, Prod.mk.injEq] at h
        obtain ⟨rfl, rfl, rfl⟩ := h
        exact ⟨rfl, F1, m1, S1, E1⟩
  | .cond c x y, hok, fr, H, e, fr', H', h, w, F, m, a, S => by
    simp only [codeOk, Bool.and_eq_true] at hok
    simp only [acode, acond] at h
    split at h <;> try (cases h; done)
    rename_i t ht
    have hv := S.fr.eval c
    rw [ht] at hv
    generalize hq : a.eval c = u at hv
    cases hv
    refine wp_cond hq ?_
    cases t
    · exact acode_sound hC hm D K y hok.2 fr H e fr' H' h w F m a S
    · exact acode_sound hC hm D K x hok.1 fr H e fr' H' h w F m a S
  | .block id b, hok, fr, H, e, fr', H', h, w, F, m, a, S => by
    simp only [codeOk] at hok
    simp only [acode] at h
    cases hb : acode P C D K b fr H with
    | none => rw [hb] at h; simp [aexit] at h
    | some r =>
      obtain ⟨e1, fr1, H1⟩ := r
      rw [hb] at h
      refine wp_block (wp_mono (acode_sound hC hm D K b hok fr H e1 fr1 H1 hb w F m a S) ?_)
      rintro ex a1 w1 ⟨rfl, F1, m1, S1, E1⟩
      cases e1
      case exit k =>
        simp only [aexit] at h
        simp only [AEx.toExit, Exit.inBlock]
        split at h
        · rename_i hk
          simp only [Option.some.injEq, Prod.mk.injEq] at h
          obtain ⟨rfl, rfl, rfl⟩ := h
          rw [if_pos hk]
          exact ⟨rfl, F1, m1, S1, E1⟩
        · rename_i hk
          simp only [Option.some.injEq, Prod.mk.injEq] at h
          obtain ⟨rfl, rfl, rfl⟩ := h
          rw [if_neg hk]
          exact ⟨rfl, F1, m1, S1, E1⟩
      all_goals
        simp only [aexit, Option.some.injEq, Prod.mk.injEq] at h
        obtain ⟨rfl, rfl, rfl⟩ := h
        exact ⟨rfl, F1, m1, S1, E1⟩
  | .loop b, hok, fr, H, e, fr', H', h, w, F, m, a, S => by
    simp only [codeOk] at hok
    simp only [acode] at h
    obtain ⟨q, hq⟩ := iter_of_aloop h
    refine wp_loop_rounds q ?_
    clear h
    induction q generalizing fr H w F m a with
    | zero => simp [aiter] at hq
    | succ q ih =>
      rw [rounds_succ]
      simp only [aiter] at hq
      cases hb : acode P C D K b fr H with
      | none => rw [hb] at hq; simp at hq
      | some r =>
        obtain ⟨e1, fr1, H1⟩ := r
        rw [hb] at hq
        refine wp_mono (acode_sound hC hm D K b hok fr H e1 fr1 H1 hb w F m a S) ?_
        rintro ex a1 w1 ⟨rfl, F1, m1, S1, E1⟩
        cases e1
        case normal =>
          have := ih fr1 H1 w1 F1 m1 a1 S1 hq
          refine rounds_mono this ?_
          rintro ex a2 w2 ⟨h1, F2, m2, S2, E2⟩
          exact ⟨h1, F2, m2, S2, E1.trans E2⟩
        all_goals
          simp only [Option.some.injEq, Prod.mk.injEq] at hq
          obtain ⟨rfl, rfl, rfl⟩ := hq
          exact ⟨rfl, F1, m1, S1, E1⟩
  | .rangeFunc .., _, _, _, _, _, _, h, _, _, _, _, _ => by simp [acode] at h
  | .scope .., _, _, _, _, _, _, h, _, _, _, _, _ => by simp [acode] at h
  | .label .., _, _, _, _, _, _, h, _, _, _, _, _ => by simp [acode] at h
  | .goto .., _, _, _, _, _, _, h, _, _, _, _, _ => by simp [acode] at h
  | .refuse .., _, _, _, _, _, _, h, _, _, _, _, _ => by simp [acode] at h
where
  rounds_mono {c : Code} {Q Q' : Exit → Act → World → Prop} {n : Nat} {a : Act} {w : World} (h : Code.rounds P c Q n a w) (hq : ∀ e a w, Q e a w → Q' e a w) : Code.rounds P c Q' n a w := by
    induction n generalizing a w with
    | zero => exact h.elim
    | succ n ih =>
      rw [rounds_succ] at h ⊢
      refine wp_mono h fun e a w he => ?_
      cases e <;> first | exact ih he | exact hq _ _ _ he
end
end Go.Abs
