/-
  The blocks while a region runs in an order of its own.
-/
import Derived.Test.YtgcfbommjdcgkaaAbs12
set_option linter.unusedSimpArgs false
set_option linter.unusedVariables false
namespace Go.Abs

def AHeap.WF (H : AHeap) : Prop := ∀ b x, H.get b = some x → b < H.next

/-- What an operation leaves of the blocks. -/
structure Shape (c : Cls) (H H' : AHeap) : Prop where
  next : H.next ≤ H'.next
  wf : H'.WF
  same : c.isW = false → ∀ b, b < H.next → H'.get b = H.get b
  none : c.isAl = false → H'.next = H.next

section
variable {P : Program} {C : Tab} {H H' : AHeap}

theorem Shape.refl {c : Cls} (h : H.WF) : Shape c H H := ⟨Nat.le_refl _, h, fun _ _ _ => rfl, fun _ => rfl⟩

theorem shape_push {c : Cls} {x : Blk} (h : H.WF) (hc : c.isAl = true) : Shape c H (H.push x) := by
  refine ⟨by simp [AHeap.push], fun b y hb => ?_, fun _ b hb => ?_, fun h => by rw [hc] at h; cases h⟩
  · rw [AHeap.get_push] at hb
    rw [AHeap.next_push]
    split at hb
    · omega
    · have := h b y hb; omega
  · rw [AHeap.get_push, if_neg (by omega)]

theorem shape_set {c : Cls} {b : Nat} {x : Option Blk} {y : Blk} (h : H.WF) (hb : H.get b = some y) (hc : c.isW = true) : Shape c H (H.set b x) := by
  refine ⟨Nat.le_refl _, fun b' y' hb' => ?_, (fun h => by rw [hc] at h; cases h), fun _ => rfl⟩
  rw [AHeap.get_set] at hb'
  rw [AHeap.next_set]
  split at hb'
  · rename_i e; subst e; exact h _ _ hb
  · exact h b' y' hb'

theorem abox_shape {c : Cls} {e : TypeId} {x z : AV} (h : abox e x H = some (z, H')) (hw : H.WF) (hc : c.isAl = true) : Shape c H H' := by
  unfold abox at h
  repeat' split at h
  all_goals first | (cases h; done) | skip
  simp only [Option.some.injEq, Prod.mk.injEq] at h
  rw [← h.2]; exact shape_push hw hc

theorem callP_shape {c : Cls} {keep : Bool} {spec : List AV → Option AV} {l : List (List (Option Nat))} {args : List AV} {z : AV} (h : callP keep spec l args H = some (z, H')) (hw : H.WF) (hc : c.isW = true) : Shape c H H' := by
  unfold callP at h
  repeat' split at h
  all_goals first | (cases h; done) | skip
  · simp only [Option.some.injEq, Prod.mk.injEq] at h
    rw [← h.2]; exact .refl hw
  · simp only [Option.some.injEq, Prod.mk.injEq] at h
    rw [← h.2]
    refine ⟨Nat.le_refl _, fun b' y' hb' => ?_, (fun h => by rw [hc] at h; cases h), fun _ => rfl⟩
    simp only [AHeap.killAll] at hb'
    split at hb'
    · cases hb'
    · exact hw b' y' hb'

theorem aappend_shape {c : Cls} {t : TypeId} {s x z : AV} (h : aappend P t s x H = some (z, H')) (hw : H.WF) (hc : c.isW = true) (hc' : c.isAl = true) : Shape c H H' := by
  unfold aappend aappendR at h
  repeat' split at h
  all_goals first | (cases h; done) | skip
  all_goals
    simp only [Option.some.injEq, Prod.mk.injEq] at h
    rw [← h.2]
  · exact ⟨Nat.le_succ _, fun b y hb => Nat.lt_succ_of_lt (hw b y hb), fun _ _ _ => rfl, fun h => by rw [hc'] at h; cases h⟩
  · exact shape_push hw hc'
  · rename_i hb _
    have h1 := shape_set (x := none) hw hb hc
    exact ⟨by simp [AHeap.push, AHeap.set], (shape_push (c := c) h1.wf hc').wf, (fun h => by rw [hc] at h; cases h), fun h => by rw [hc'] at h; cases h⟩

theorem aop_shape {fr : AFr} {o : Op} {z : AV} (h : aop P C fr.eval H o = some (z, H')) (hg : clsOf C o ≠ .g) (hw : H.WF) : Shape (clsOf C o) H H' := by
  by_cases hp : clsOf C o = .p
  · rw [(aop_same h hp).1]; exact .refl hw
  cases o
  case alloc e =>
    simp only [aop] at h
    unfold aalloc aallocR at h
    split at h
    · exact abox_shape h hw rfl
    · cases h
  case box e x => exact abox_shape h hw rfl
  case buildSlice t n parts =>
    simp only [aop] at h
    unfold abuildSlice abuildSliceR at h
    repeat' split at h
    all_goals first | (cases h; done) | skip
    simp only [Option.some.injEq, Prod.mk.injEq] at h
    rw [← h.2]; exact shape_push hw rfl
  case makeSlice t l c =>
    simp only [aop] at h
    unfold amake amakeR at h
    repeat' split at h
    all_goals first | (cases h; done) | skip
    simp only [Option.some.injEq, Prod.mk.injEq] at h
    rw [← h.2]; exact shape_push hw rfl
  case load t a =>
    simp only [aop, lift] at h
    split at h <;> try (cases h; done)
    simp only [Option.some.injEq, Prod.mk.injEq] at h
    rw [← h.2]; exact .refl hw
  case store t x y =>
    simp only [aop, liftS] at h
    split at h <;> try (cases h; done)
    rename_i H1 hs
    simp only [Option.some.injEq, Prod.mk.injEq] at h
    rw [← h.2]
    unfold astore astoreR at hs
    repeat' split at hs
    all_goals first | (cases hs; done) | skip
    simp only [Option.some.injEq] at hs
    rw [← hs]
    exact shape_set hw (by assumption) rfl
  case call c =>
    obtain ⟨callee, args, argTypes⟩ := c
    simp only [aop, acallOp] at h
    cases callee with
    | invoke r n => simp [clsOf] at hg
    | builtin b =>
      by_cases hb : b = .append
      · subst hb
        dsimp only at h
        split at h <;> try (cases h; done)
        split at h <;> try (cases h; done)
        exact aappend_shape h hw rfl rfl
      · cases b <;> first | exact absurd rfl hb | (simp [clsOf] at hp)
    | value f =>
      cases f with
      | func g =>
        cases hg' : C g with
        | none => simp [clsOf, hg'] at hg
        | some k => cases k with
          | ref fz spec => simp [clsOf, hg'] at hg
          | pure keep spec =>
            simp only [acallClo, AFr.eval, hg', List.nil_append, List.append_nil] at h
            unfold acallR at h
            cases ht : tysOf P argTypes.toList with
            | none => simp [ht] at h
            | some l =>
              simp only [ht] at h
              exact callP_shape h hw (by simp [clsOf, hg', Cls.isW])
      | _ => simp [clsOf] at hg
  all_goals simp [clsOf] at hp

theorem gd_some {g : Option Bool} {x : Option (AV × AHeap)} {z : AV} (h : gd g x H = some (z, H')) : (g = some true ∧ x = some (z, H')) ∨ (g = some false ∧ z = .tup [] ∧ H' = H) := by
  unfold gd at h
  split at h <;> try (cases h; done)
  rename_i b
  cases b with
  | true => exact .inl ⟨rfl, h⟩
  | false =>
    simp only [Bool.false_eq_true, if_false, Option.some.injEq, Prod.mk.injEq] at h
    exact .inr ⟨rfl, h.1.symm, h.2.symm⟩

theorem dstep_shape {ops : Array Oper} {fr : AFr} {o : Oper} {z : AV} (h : dstep P C ops fr H o = some (z, H')) (hw : H.WF) : Shape (clsOf C o.op) H H' := by
  unfold dstep at h
  split at h
  · rename_i hc
    unfold san at h
    split at h <;> try (cases h; done)
    split at h <;> try (cases h; done)
    rename_i hle
    simp only [Option.some.injEq, Prod.mk.injEq] at h
    rw [← h.2, hc]
    refine ⟨hle, fun b x hb => ?_, (fun h => by cases h), fun h => by cases h⟩
    dsimp only at hb ⊢
    split at hb
    · assumption
    · cases hb
  · rename_i hc
    rcases gd_some h with ⟨_, h⟩ | ⟨_, _, rfl⟩
    · exact aop_shape h (fun hg => hc hg) hw
    · exact .refl hw

/-- When a block came to be: ahead of everything, or with the step ahead of i. -/
def Born (hs : Nat → AHeap) (b : Nat) : Nat → Prop
  | 0 => b < (hs 0).next
  | j + 1 => (hs j).next ≤ b ∧ b < (hs (j + 1)).next
end

section
variable {P : Program} {C : Tab} {ops : Array Oper} {frs : Nat → AFr} {hs : Nat → AHeap}

theorem Run.shape (R : Run P C ops frs hs) : ∀ i, i < ops.size → (hs i).WF ∧ ∀ o, ops[i]? = some o → Shape (clsOf C o.op) (hs i) (hs (i + 1))
  | 0, hi => by
    have h0 : (hs 0).WF := R.wf0
    refine ⟨h0, fun o ho => ?_⟩
    obtain ⟨z, h1, _⟩ := R.step 0 o ho
    exact dstep_shape h1 h0
  | i + 1, hi => by
    obtain ⟨_, h2⟩ := R.shape i (by omega)
    have hw := (h2 ops[i] (by simp [show i < ops.size by omega])).wf
    refine ⟨hw, fun o ho => ?_⟩
    obtain ⟨z, h1, _⟩ := R.step (i + 1) o ho
    exact dstep_shape h1 hw

theorem Run.wf (R : Run P C ops frs hs) {i : Nat} (hi : i ≤ ops.size) : (hs i).WF := by
  cases i with
  | zero => exact R.wf0
  | succ i => exact ((R.shape i (by omega)).2 ops[i] (by simp [show i < ops.size by omega])).wf

theorem Run.next_le (R : Run P C ops frs hs) {i : Nat} : ∀ {j : Nat}, i ≤ j → j ≤ ops.size → (hs i).next ≤ (hs j).next
  | 0, hij, _ => by have : i = 0 := by omega
                    subst this; exact Nat.le_refl _
  | j + 1, hij, hj => by
    by_cases h : i = j + 1
    · subst h; exact Nat.le_refl _
    · have h1 := R.next_le (i := i) (j := j) (by omega) (by omega)
      have h2 := ((R.shape j (by omega)).2 ops[j] (by simp [show j < ops.size by omega])).next
      omega

theorem Run.born_lt (R : Run P C ops frs hs) {b i j : Nat} (h : Born hs b i) (hij : i ≤ j) (hj : j ≤ ops.size) : b < (hs j).next := by
  have := R.next_le hij hj
  cases i with
  | zero => have h : b < (hs 0).next := h; omega
  | succ i => have := h.2; omega

theorem Run.born_le (R : Run P C ops frs hs) {b i j : Nat} (h : Born hs b i) (hb : b < (hs j).next) (hj : j ≤ ops.size) (hi : i ≤ ops.size) : i ≤ j := by
  cases i with
  | zero => omega
  | succ i =>
    by_cases hc : i + 1 ≤ j
    · exact hc
    · have := R.next_le (i := j) (j := i) (by omega) (by omega)
      have := h.1
      omega

theorem Run.born_uniq (R : Run P C ops frs hs) {b i j : Nat} (h : Born hs b i) (h' : Born hs b j) (hi : i ≤ ops.size) (hj : j ≤ ops.size) : i = j := by
  have h1 := R.born_le h (R.born_lt h' (Nat.le_refl j) hj) hj hi
  have h2 := R.born_le h' (R.born_lt h (Nat.le_refl i) hi) hi hj
  omega

theorem Run.born_ex (R : Run P C ops frs hs) {b : Nat} : ∀ {j : Nat}, b < (hs j).next → ∃ i, i ≤ j ∧ Born hs b i
  | 0, h => ⟨0, Nat.le_refl _, h⟩
  | j + 1, h => by
    by_cases hb : b < (hs j).next
    · obtain ⟨i, h1, h2⟩ := R.born_ex hb
      exact ⟨i, by omega, h2⟩
    · exact ⟨j + 1, Nat.le_refl _, by omega, h⟩

/-- While nobody turns it a block stays. -/
theorem Run.chain (R : Run P C ops frs hs) {b a : Nat} (hb : b < (hs a).next) : ∀ {c : Nat}, a ≤ c → c ≤ ops.size →
    (∀ k o, a ≤ k → k < c → ops[k]? = some o → (clsOf C o.op).isW = true → (hs (k + 1)).get b = (hs k).get b) → (hs c).get b = (hs a).get b
  | 0, hac, _, _ => by have : a = 0 := by omega
                       subst this; rfl
  | c + 1, hac, hc, hk => by
    by_cases h : a = c + 1
    · subst h; rfl
    · rw [← R.chain hb (c := c) (by omega) (by omega) fun k o h1 h2 => hk k o h1 (by omega)]
      have ho : ops[c]? = some ops[c] := by simp [show c < ops.size by omega]
      cases hw : (clsOf C ops[c].op).isW with
      | true => exact hk c ops[c] (by omega) (by omega) ho hw
      | false =>
        have := R.next_le (i := a) (j := c) (by omega) (by omega)
        exact ((R.shape c (by omega)).2 _ ho).same hw b (by omega)

/-- The blocks, when the operations D are done; κ parts the writers. -/
structure HS (C : Tab) (ops : Array Oper) (hs : Nat → AHeap) (D : Nat → Prop) (A : Nat → Prop) (G : AHeap) (κ : Nat) : Prop where
  le : κ ≤ ops.size
  sep : ∀ k o, ops[k]? = some o → (clsOf C o.op).isW = true → (D k ↔ k < κ)
  blk : ∀ b, A b → ∃ i, i ≤ ops.size ∧ Born hs b i ∧ (∀ j, i = j + 1 → D j) ∧ G.get b = (hs (max κ i)).get b
  all : ∀ b i, i ≤ ops.size → Born hs b i → (∀ j, i = j + 1 → D j) → A b
  un : ∀ k o, ops[k]? = some o → (clsOf C o.op).isW = true → D k → ∀ b j, j + 1 ≤ k → Born hs b (j + 1) → ¬ D j → (hs (k + 1)).get b = (hs k).get b

/-- What is done is done from below. -/
def Closed (ops : Array Oper) (D : Nat → Prop) : Prop := ∀ i j, i < ops.size → j < ops.size → D j → Bf ops i j → D i

/-- It may be done now. -/
structure Ready (ops : Array Oper) (D : Nat → Prop) (i : Nat) (o : Oper) : Prop where
  at_ : ops[i]? = some o
  new : ¬ D i
  closed : Closed ops D
  bef : ∀ k, k < ops.size → Bf ops k i → D k

theorem Ready.lt {D : Nat → Prop} {i : Nat} {o : Oper} (r : Ready ops D i o) : i < ops.size := (Array.getElem?_eq_some_iff.1 r.at_).1
theorem Ready.after {D : Nat → Prop} {i : Nat} {o : Oper} (r : Ready ops D i o) {j : Nat} (hj : j < ops.size) (hD : D j) : ¬ Bf ops i j := fun h => r.new (r.closed i j r.lt hj hD h)

theorem pairOk_cls {x y : Oper} (h : pairOk C ops x y = true) : clsPair (clsOf C x.op) (clsOf C y.op) = true := by
  simp only [pairOk, Bool.and_eq_true] at h; exact h.2

/-- Writers stand in their order. -/
theorem Ready.writers {D : Nat → Prop} {i : Nat} {o : Oper} (r : Ready ops D i o) (R : Run P C ops frs hs) (hw : (clsOf C o.op).isW = true) {k : Nat} {o' : Oper} (hk : ops[k]? = some o') (hw' : (clsOf C o'.op).isW = true) : (k < i → D k) ∧ (i < k → ¬ D k) := by
  have hkl : k < ops.size := (Array.getElem?_eq_some_iff.1 hk).1
  refine ⟨fun h => ?_, fun h hD => ?_⟩
  · rcases reg_pair R.reg hk r.at_ h with h | h
    · exact r.bef k hkl h
    · have := pairOk_cls h
      simp [clsPair, hw, hw'] at this
  · rcases reg_pair R.reg r.at_ hk h with h | h
    · exact r.after hkl hD h
    · have := pairOk_cls h
      simp [clsPair, hw, hw'] at this

/-- The parting stands at a writer that is ready. -/
theorem HS.move {D A : Nat → Prop} {G : AHeap} {κ i : Nat} {o : Oper} (S : HS C ops hs D A G κ) (R : Run P C ops frs hs) (r : Ready ops D i o) (hw : (clsOf C o.op).isW = true) : HS C ops hs D A G i := by
  have hκ : κ ≤ i := by
    have := S.sep i o r.at_ hw
    exact Nat.le_of_not_lt fun h => r.new (this.2 h)
  have hno : ∀ k o', ops[k]? = some o' → (clsOf C o'.op).isW = true → κ ≤ k → k < i → False := fun k o' hk hw' h1 h2 => by
    have := (S.sep k o' hk hw').1 ((r.writers R hw hk hw').1 h2)
    omega
  have hi := r.lt
  refine ⟨by omega, fun k o' hk hw' => ⟨fun h => ?_, fun h => (r.writers R hw hk hw').1 h⟩, fun b hb => ?_, S.all, S.un⟩
  · have := (S.sep k o' hk hw').1 h
    omega
  · obtain ⟨j, h1, h2, h3, h4⟩ := S.blk b hb
    refine ⟨j, h1, h2, h3, h4.trans ?_⟩
    symm
    refine R.chain (R.born_lt h2 (by omega) (by omega)) (by omega) (by omega) fun k o' q1 q2 q3 q4 => ?_
    exact (hno k o' q3 q4 (by omega) (by omega)).elim

/-- What there is of the blocks that a writer sees. -/
theorem HS.has {D A : Nat → Prop} {G : AHeap} {i : Nat} (S : HS C ops hs D A G i) (R : Run P C ops frs hs) : Has A (hs i) G := by
  intro b x hb hx
  obtain ⟨j, h1, h2, h3, h4⟩ := S.blk b hb
  have hj := R.born_le h2 (R.wf S.le b x hx) S.le h1
  rw [h4, show max i j = i by omega]
  exact hx

/-- The block that an operation makes is not there yet. -/
theorem HS.fresh {D A : Nat → Prop} {G : AHeap} {κ i : Nat} {o : Oper} (S : HS C ops hs D A G κ) (R : Run P C ops frs hs) (r : Ready ops D i o) (hn : (hs (i + 1)).next = (hs i).next + 1) : ¬ A (hs i).next := by
  intro h
  obtain ⟨j, h1, h2, h3, h4⟩ := S.blk _ h
  have hb : Born hs (hs i).next (i + 1) := ⟨Nat.le_refl _, by omega⟩
  have := R.born_uniq h2 hb h1 r.lt
  exact r.new (h3 i this)

theorem HS.fresh' {D A : Nat → Prop} {G : AHeap} {κ : Nat} (S : HS C ops hs D A G κ) (R : Run P C ops frs hs) : ¬ A (hs ops.size).next := by
  intro h
  obtain ⟨j, h1, h2, h3, h4⟩ := S.blk _ h
  have := R.born_lt h2 h1 (Nat.le_refl _)
  omega
end
end Go.Abs
