/-
  Regions that draw their order: what is looked at, and what an operation hangs on.
-/
import Derived.Test.YtgcfbommjdcgkaaAbs9
set_option linter.unusedSimpArgs false
set_option linter.unusedVariables false
namespace Go.Abs

inductive Cls where
  | p | l | al | w | wa | g
  deriving DecidableEq

/-- What an operation may do to memory: nothing; read; make a block; write; both; anything. -/
def clsOf (C : Tab) (op : Op) : Cls :=
  match op with
  | .load .. => .l
  | .store .. => .w
  | .alloc _ | .box .. | .buildSlice .. | .makeSlice .. => .al
  | .call c => match c.callee with
    | .builtin .append => .wa
    | .builtin _ => .p
    | .value (.func f) => match C f with
      | some (.pure ..) => .w
      | _ => .g
    | _ => .g
  | _ => .p

def Cls.isW : Cls → Bool
  | .w | .wa | .g => true
  | _ => false

def Cls.isAl : Cls → Bool
  | .al | .wa | .g => true
  | _ => false

/-- May two operations stand in either order? -/
def clsPair (a b : Cls) : Bool := !(a.isW && b.isW) && !(a == .g && b.isAl) && !(b == .g && a.isAl)

def notSelect (o : Oper) : Bool := match o.op with | .select .. => false | _ => true

def pairOk (C : Tab) (ops : Array Oper) (x y : Oper) : Bool := Oper.apart ops x y && clsPair (clsOf C x.op) (clsOf C y.op)

def rowOk (C : Tab) (ops : Array Oper) (B : Nat) (y : Oper) : Nat → List Oper → Bool
  | _, [] => true
  | i, x :: xs => (B.testBit i || pairOk C ops x y) && rowOk C ops B y (i + 1) xs

/-- What stands ahead of the j-th, does so through an operation that it names. -/
def bitOk (Bs : Array Nat) (j : Nat) (y : Oper) : Nat → List Oper → Bool
  | _, [] => true
  | i, _ :: xs => (!(Bs.getD j 0).testBit i || (decide (i < j) && y.after.toList.any fun e => Region.binds .any e && (e.on == i || (Bs.getD e.on 0).testBit i))) && bitOk Bs j y (i + 1) xs

def regGo (C : Tab) (ops : Array Oper) (Bs : Array Nat) : Nat → List Oper → Bool
  | _, [] => true
  | j, y :: ys => rowOk C ops (Bs.getD j 0) y 0 (ops.toList.take j) && bitOk Bs j y 0 ops.toList && (y.after.toList.all fun e => !Region.binds .any e || decide (e.on < j)) && notSelect y && regGo C ops Bs (j + 1) ys

def regOk (C : Tab) (ops : Array Oper) : Bool := regGo C ops (Region.before ops) 0 ops.toList

def pairsOf (C : Tab) (Bs : Array Nat) (j : Nat) : Nat → List Oper → List (Nat × Nat)
  | _, [] => []
  | i, x :: xs =>
    if (Bs.getD j 0).testBit i || (Bs.getD i 0).testBit j then pairsOf C Bs j (i + 1) xs
    else if (clsOf C x.op).isW then (j, i) :: pairsOf C Bs j (i + 1) xs
    else pairsOf C Bs j (i + 1) xs

def lwGo (C : Tab) (ops : Array Oper) (Bs : Array Nat) : Nat → List Oper → List (Nat × Nat)
  | _, [] => []
  | j, y :: ys => (match clsOf C y.op with | .l => pairsOf C Bs j 0 ops.toList | _ => []) ++ lwGo C ops Bs (j + 1) ys

/-- The loads and the writers that may stand in either order. -/
def lwPairs (C : Tab) (ops : Array Oper) : List (Nat × Nat) := lwGo C ops (Region.before ops) 0 ops.toList

open Classical in
noncomputable def withChk {α : Type} : List Prop → Option α → Option α
  | [], x => x
  | p :: ps, x => if p then withChk ps x else none

def chk (P : Program) (ops : Array Oper) (tr : List (AFr × AHeap)) (q : Nat × Nat) : Prop :=
  match (ops[q.1]?).map (·.op), tr[q.1]?, tr[q.2]?, tr[q.2 + 1]? with
  | some (.load t a), some (frj, _), some (_, Hi), some (_, Hi1) => aload P t (frj.eval a) Hi = aload P t (frj.eval a) Hi1
  | _, _, _, _ => False

/-- Behind a call there are as many blocks as it says. -/
def san (H : AHeap) (x : Option (AV × AHeap)) : Option (AV × AHeap) :=
  match x with
  | some (v, H') => if H.next ≤ H'.next then some (v, { next := H'.next, get := fun b => if b < H'.next then H'.get b else none }) else none
  | none => none

def dstep (P : Program) (C : Tab) (ops : Array Oper) (fr : AFr) (H : AHeap) (o : Oper) : Option (AV × AHeap) :=
  match clsOf C o.op with
  | .g => san H (astep P C ops fr H o)
  | _ => astep P C ops fr H o

noncomputable def adrawGo (P : Program) (C : Tab) (ops : Array Oper) (l : List Nat) : List Oper → AFr → AHeap → List (AFr × AHeap) → Option (AFr × AHeap)
  | [], fr, H, hist => withChk ((lwPairs C ops).map (chk P ops ((fr, H) :: hist).reverse)) (some (fr.only l, H))
  | o :: rest, fr, H, hist => op (dstep P C ops fr H o) fun v H' => adrawGo P C ops l rest (fr.put o.dst v) H' ((fr, H) :: hist)

noncomputable def adraw (P : Program) (C : Tab) (ops : Array Oper) (l : List Nat) (fr : AFr) (H : AHeap) : Option (AFr × AHeap) :=
  if regOk C ops = true then adrawGo P C ops l ops.toList fr H [] else none

/-! What an operation hangs on -/

theorem aop_congr {P : Program} {C : Tab} {ρ ρ' : Operand → AV} (H : AHeap) (o : Op) (h : ∀ x ∈ o.operands, ρ x = ρ' x) : aop P C ρ H o = aop P C ρ' H o := by
  have pairs : ∀ ps : Array (Nat × Operand), (∀ x ∈ (ps.toList.map (·.2)).toArray, ρ x = ρ' x) → (ps.toList.map fun p => (p.1, ρ p.2)) = (ps.toList.map fun p => (p.1, ρ' p.2)) := fun ps hp =>
    List.map_congr_left fun p hm => by simp only [hp p.2 (by simp; exact ⟨p.1, by simpa using hm⟩)]
  cases o <;> simp only [Op.operands] at h
  case build t ps => simp only [aop, aval, pairs ps h]
  case buildSlice t n ps => simp only [aop, pairs ps h]
  case makeFunc fn first captured =>
    cases fn <;> simp only [aop, aval]
    rw [List.map_congr_left (l := first.toList) fun x hx => h x (by simp at hx; simp [hx]), List.map_congr_left (l := captured.toList) fun x hx => h x (by simp at hx; simp [hx])]
  case slice t x lo hi mx => cases lo <;> cases hi <;> cases mx <;> simp_all [aop, aval]
  case call c =>
    obtain ⟨callee, args, argTypes⟩ := c
    have hargs : ∀ x ∈ args.toList, ρ x = ρ' x := fun x hx => h x (by simp at hx; simp [Call.operands, hx])
    simp only [aop, acallOp]
    cases callee with
    | value f =>
      have hf : ρ f = ρ' f := h f (by simp [Call.operands])
      simp only [hf, List.map_congr_left hargs]
    | invoke r m => rfl
    | builtin b =>
      obtain ⟨al⟩ := args
      cases b <;> simp only [aval]
      all_goals first
        | rfl
        | (rcases al with _ | ⟨x, _ | ⟨y, _ | _⟩⟩ <;> simp_all <;> (split <;> simp_all))
        | (rcases al with _ | ⟨x, _ | ⟨y, _ | _⟩⟩ <;> simp_all)
  all_goals first
    | rfl
    | (simp only [aop, aval]; simp_all; done)

section
variable {P : Program} {C : Tab} {w : World} {F A : Nat → Prop} {m : Nat → Nat} {H G H' : AHeap}

/-- What G has of the blocks that there are. -/
def Has (A : Nat → Prop) (H G : AHeap) : Prop := ∀ b x, A b → H.get b = some x → G.get b = some x

theorem frzCell_local {n : Option Nat} {a a' : AV} {S : List Nat} {v : Value} (h : frzCell H n a = some (a', S)) (hv : RV w F A m a v) (hG : Has A H G) :
    frzCell G n a = some (a', S) ∧ ∀ b, b ∈ S → A b ∧ ∃ x, H.get b = some x := by
  unfold frzCell at h ⊢
  split at h
  · cases hv with
    | sl b sz off len cap e hA _ _ _ =>
      split at h <;> try (cases h; done)
      rename_i blk hb
      rw [hG _ _ hA hb]
      dsimp only
      split at h <;> try (cases h; done)
      rename_i hc
      rw [if_pos hc]
      refine ⟨h, fun b' hb' => ?_⟩
      simp only [Option.some.injEq, Prod.mk.injEq] at h
      rw [← h.2] at hb'
      simp only [List.mem_singleton] at hb'
      subst hb'
      exact ⟨hA, blk, hb⟩
  · split at h <;> (simp only [Option.some.injEq, Prod.mk.injEq] at h ⊢; exact ⟨h, by rw [← h.2]; simp⟩)
  · simp only [Option.some.injEq, Prod.mk.injEq] at h ⊢
    exact ⟨h, by rw [← h.2]; simp⟩
  · split at h <;> try (cases h; done)
    rename_i hf
    refine ⟨by rw [if_pos hf]; exact h, ?_⟩
    simp only [Option.some.injEq, Prod.mk.injEq] at h
    rw [← h.2]; simp

theorem frzCells_local : ∀ (l : List (Option Nat)) (cs cs' : List AV) (S : List Nat) (vs : List Value), frzCells H l cs = some (cs', S) → RL w F A m cs vs → Has A H G →
    frzCells G l cs = some (cs', S) ∧ ∀ b, b ∈ S → A b ∧ ∃ x, H.get b = some x
  | [], [], cs', S, vs, h, hr, hG => by
    simp only [frzCells] at h ⊢
    refine ⟨h, ?_⟩
    simp only [Option.some.injEq, Prod.mk.injEq] at h
    rw [← h.2]; simp
  | [], _ :: _, _, _, _, h, _, _ => by simp [frzCells] at h
  | _ :: _, [], _, _, _, h, _, _ => by simp [frzCells] at h
  | n :: l, a :: cs, cs', S, [], h, hr, hG => by have := hr.1; simp at this
  | n :: l, a :: cs, cs', S, v :: vs, h, hr, hG => by
    simp only [frzCells] at h ⊢
    split at h <;> try (cases h; done)
    rename_i a' S1 cs1 S2 h1 h2
    obtain ⟨q1, q2⟩ := frzCell_local h1 (hr.2 0 a v rfl rfl) hG
    obtain ⟨p1, p2⟩ := frzCells_local l cs cs1 S2 vs h2 ⟨by simpa using hr.1, fun i a v h1 h2 => hr.2 (i + 1) a v (by simpa using h1) (by simpa using h2)⟩ hG
    rw [q1, p1]
    refine ⟨h, fun b hb => ?_⟩
    simp only [Option.some.injEq, Prod.mk.injEq] at h
    rw [← h.2] at hb
    exact (List.mem_append.1 hb).elim (q2 b) (p2 b)

theorem frz_local {l : List (Option Nat)} {a a' : AV} {S : List Nat} {v : Value} (h : frz H l a = some (a', S)) (hv : RV w F A m a v) (hG : Has A H G) :
    frz G l a = some (a', S) ∧ ∀ b, b ∈ S → A b ∧ ∃ x, H.get b = some x := by
  unfold frz at h ⊢
  split at h
  · split at h <;> try (cases h; done)
    rename_i cs _ cs' S' h1
    cases hv with
    | agg cs vs hl hc =>
      obtain ⟨q1, q2⟩ := frzCells_local (G := G) l cs cs' S' vs.toList h1 ⟨by simpa using hl, fun i a v h1 h2 => hc i a v h1 (by simpa using h2)⟩ hG
      rw [q1]
      refine ⟨h, fun b hb => ?_⟩
      simp only [Option.some.injEq, Prod.mk.injEq] at h
      rw [← h.2] at hb
      exact q2 b hb
  · exact frzCell_local h hv hG

theorem frzArgs_local : ∀ (l : List (List (Option Nat))) (cs cs' : List AV) (S : List Nat) (vs : List Value), frzArgs H l cs = some (cs', S) → RL w F A m cs vs → Has A H G →
    frzArgs G l cs = some (cs', S) ∧ ∀ b, b ∈ S → A b ∧ ∃ x, H.get b = some x
  | [], [], cs', S, vs, h, hr, hG => by
    simp only [frzArgs] at h ⊢
    refine ⟨h, ?_⟩
    simp only [Option.some.injEq, Prod.mk.injEq] at h
    rw [← h.2]; simp
  | [], _ :: _, _, _, _, h, _, _ => by simp [frzArgs] at h
  | _ :: _, [], _, _, _, h, _, _ => by simp [frzArgs] at h
  | n :: l, a :: cs, cs', S, [], h, hr, hG => by have := hr.1; simp at this
  | n :: l, a :: cs, cs', S, v :: vs, h, hr, hG => by
    simp only [frzArgs] at h ⊢
    split at h <;> try (cases h; done)
    rename_i a' S1 cs1 S2 h1 h2
    obtain ⟨q1, q2⟩ := frz_local h1 (hr.2 0 a v rfl rfl) hG
    obtain ⟨p1, p2⟩ := frzArgs_local l cs cs1 S2 vs h2 ⟨by simpa using hr.1, fun i a v h1 h2 => hr.2 (i + 1) a v (by simpa using h1) (by simpa using h2)⟩ hG
    rw [q1, p1]
    refine ⟨h, fun b hb => ?_⟩
    simp only [Option.some.injEq, Prod.mk.injEq] at h
    rw [← h.2] at hb
    exact (List.mem_append.1 hb).elim (q2 b) (p2 b)

/-- An operation does over G what it does over H; S: the blocks that it turns. -/
def Loc (A : Nat → Prop) (H H' : AHeap) (run : AHeap → Option (AV × AHeap)) (z : AV) : Prop :=
  ∀ G, (H'.next = H.next ∨ (G.next = H.next ∧ G.get H.next = none ∧ H.get H.next = none)) → Has A H G → ∃ (G' : AHeap) (S : Nat → Prop), run G = some (z, G') ∧
    (∀ b, S b → (A b ∧ ∃ x, H.get b = some x) ∨ (b = H.next ∧ H'.next = H.next + 1)) ∧ (∀ b, S b → G'.get b = H'.get b) ∧ (∀ b, ¬ S b → G'.get b = G.get b ∧ H'.get b = H.get b) ∧
    ((H'.next = H.next ∧ G'.next = G.next) ∨ (H'.next = H.next + 1 ∧ G'.next = G.next + 1 ∧ S H.next))

theorem loc_push {x : Blk} {z : AV} {run : AHeap → Option (AV × AHeap)} (hr : ∀ G : AHeap, G.next = H.next → run G = some (z, G.push x)) : Loc A H (H.push x) run z := by
  intro G hn hG
  obtain ⟨hn, _, _⟩ := hn.resolve_left (by simp [AHeap.push])
  refine ⟨G.push x, fun b => b = H.next, hr G hn, fun b hb => .inr ⟨hb, rfl⟩, fun b hb => ?_, fun b hb => ?_, .inr ⟨rfl, rfl, rfl⟩⟩
  · subst hb; simp [AHeap.push, hn]
  · have hb : b ≠ H.next := hb
    simp [AHeap.push, hn, hb]

theorem abox_local {e : TypeId} {x z : AV} (h : abox e x H = some (z, H')) (A : Nat → Prop) : Loc A H H' (abox e x) z := by
  unfold abox at h
  split at h <;> try (cases h; done)
  rename_i cs hcs
  split at h <;> try (cases h; done)
  rename_i hc
  simp only [Option.some.injEq, Prod.mk.injEq] at h
  obtain ⟨rfl, rfl⟩ := h
  exact loc_push fun G hn => by unfold abox; rw [hcs]; dsimp only; rw [if_pos hc, hn]

theorem aalloc_local {e : TypeId} {z : AV} (h : aalloc P e H = some (z, H')) (A : Nat → Prop) : Loc A H H' (aalloc P e) z := by
  unfold aalloc aallocR at h
  split at h <;> try (cases h; done)
  rename_i x hx
  have := abox_local h A
  have e : aalloc P e = abox e x := by funext G; unfold aalloc aallocR; rw [hx]
  rw [e]; exact this

theorem abuildSlice_local {t : TypeId} {n : Nat} {parts : List (Nat × AV)} {z : AV} (h : abuildSlice P t n parts H = some (z, H')) (A : Nat → Prop) : Loc A H H' (abuildSlice P t n parts) z := by
  unfold abuildSlice abuildSliceR at h
  repeat' split at h
  all_goals first | (cases h; done) | skip
  all_goals
    simp only [Option.some.injEq, Prod.mk.injEq] at h
    obtain ⟨rfl, rfl⟩ := h
    refine loc_push fun G hn => ?_
    unfold abuildSlice abuildSliceR
    simp_all

theorem amake_local {t : TypeId} {l c z : AV} (h : amake P t l c H = some (z, H')) (A : Nat → Prop) : Loc A H H' (amake P t l c) z := by
  unfold amake amakeR at h
  repeat' split at h
  all_goals first | (cases h; done) | skip
  all_goals
    simp only [Option.some.injEq, Prod.mk.injEq] at h
    obtain ⟨rfl, rfl⟩ := h
    refine loc_push fun G hn => ?_
    unfold amake amakeR
    simp_all
end
end Go.Abs
