/-
  What is handed to a function by its content; contracts; every operation.
-/
import Derived.Test.YtgcfbommjdcgkaaAbs5
set_option linter.unusedSimpArgs false
set_option linter.unusedVariables false
namespace Go.Abs

def catTys (g : TypeId → Option (List (Option Nat))) : List Field → Option (List (Option Nat))
  | [] => some []
  | f :: fs => match g f.type, catTys g fs with
    | some a, some b => some (a ++ b)
    | _, _ => none

def repTys (l : List (Option Nat)) : Nat → List (Option Nat)
  | 0 => []
  | n + 1 => l ++ repTys l n

/-- Of each cell of a type: the cells of an element, if it is a slice. -/
def cellTys (P : Program) : Nat → TypeId → Option (List (Option Nat))
  | 0, _ => none
  | d + 1, t =>
    match P.underlying t with
    | some (.slice e) => match szOf P e with | some n => some [some n] | none => none
    | some (.struct fs) => catTys (cellTys P d) fs.toList
    | some (.array n e) => match cellTys P d e with | some l => some (repTys l n) | none => none
    | some _ => some [none]
    | none => none

def frzCell (H : AHeap) (n : Option Nat) (a : AV) : Option (AV × List Nat) :=
  match a with
  | .sl b sz off len =>
    match H.get b with
    | some blk => if blk.flat = true ∧ blk.sz = sz ∧ off + len ≤ blk.rows.length then some (.rsl sz ((blk.rows.drop off).take len), [b]) else none
    | none => none
  | .nils => match n with | some k => some (.rsl k [], []) | none => some (.nils, [])
  | .esl k => some (.rsl k [], [])
  | a => if a.flat = true then some (a, []) else none

def frzCells (H : AHeap) : List (Option Nat) → List AV → Option (List AV × List Nat)
  | n :: l, a :: cs => match frzCell H n a, frzCells H l cs with
    | some (a', S), some (cs', S') => some (a' :: cs', S ++ S')
    | _, _ => none
  | [], [] => some ([], [])
  | _, _ => none

def frz (H : AHeap) (l : List (Option Nat)) (a : AV) : Option (AV × List Nat) :=
  match a with
  | .agg cs => match frzCells H l cs with
    | some (cs', S) => some (.agg cs', S)
    | none => none
  | a => frzCell H (l.headD none) a

def frzArgs (H : AHeap) : List (List (Option Nat)) → List AV → Option (List AV × List Nat)
  | n :: l, a :: cs => match frz H n a, frzArgs H l cs with
    | some (a', S), some (cs', S') => some (a' :: cs', S ++ S')
    | _, _ => none
  | [], [] => some ([], [])
  | _, _ => none

/-- As 'frzArgs', where the mask says so. -/
def frzMask (H : AHeap) : List Bool → List (List (Option Nat)) → List AV → Option (List AV × List Nat)
  | true :: ms, n :: l, a :: cs => match frz H n a, frzMask H ms l cs with
    | some (a', S), some (cs', S') => some (a' :: cs', S ++ S')
    | _, _ => none
  | false :: ms, _ :: l, a :: cs => match frzMask H ms l cs with
    | some (cs', S') => some (a :: cs', S')
    | none => none
  | [], _, cs => some (cs, [])
  | _, _, _ => none

def AHeap.killAll (H : AHeap) (S : List Nat) : AHeap := { next := H.next, get := fun b => if b ∈ S then none else H.get b }

theorem AHeap.killAll_nil (H : AHeap) : H.killAll [] = H := by simp [AHeap.killAll]

def AV.noSlC : AV → Bool
  | .int .. | .bool _ | .str _ | .nilp | .nils | .nilf => true
  | _ => false

/-- It bears no slice. -/
def AV.noSl : AV → Bool
  | .agg cs => cs.all AV.noSlC
  | .tup vs => vs.all fun v => match v with | .agg cs => cs.all AV.noSlC | v => v.noSlC
  | v => v.noSlC

/-- It bears no reference to owned memory. -/
def AV.closed : AV → Bool
  | .agg cs => cs.all AV.flat
  | .tup vs => vs.all fun v => match v with | .agg cs => cs.all AV.flat | v => v.flat
  | v => v.flat

/-- What is known of a function: what it answers, from its arguments' content alone (keep: the answer refers to none of them); or what it does to memory. -/
inductive Con where
  | pure (keep : Bool) (spec : List AV → Option AV)
  | ref (fz : List Bool) (spec : List AV → AHeap → Option (AV × AHeap))

def Nx (H : AHeap) : Nat → Prop := fun b => b < H.next

def tysOf (P : Program) : List TypeId → Option (List (List (Option Nat)))
  | [] => some []
  | t :: ts => match cellTys P 8 t, tysOf P ts with
    | some a, some b => some (a :: b)
    | _, _ => none

/-- A call that hands over contents. -/
def callP (keep : Bool) (spec : List AV → Option AV) (l : List (List (Option Nat))) (args : List AV) (H : AHeap) : Option (AV × AHeap) :=
  match frzArgs H l args with
  | some (args', S) => match spec args' with
    | some r => if r.closed = true then (if S = [] ∨ r.noSl = true ∨ keep = true then some (r, H) else some (r, H.killAll S)) else none
    | none => none
  | none => none

/-- A call that works on memory. -/
def callM (fz : List Bool) (spec : List AV → AHeap → Option (AV × AHeap)) (l : List (List (Option Nat))) (args : List AV) (H : AHeap) : Option (AV × AHeap) :=
  match frzMask H fz l args with
  | some (args', S) => spec args' (if S = [] then H else H.killAll S)
  | none => none

def acallR (c : Option Con) (l : Option (List (List (Option Nat)))) (args : List AV) (H : AHeap) : Option (AV × AHeap) :=
  match c, l with
  | some (.pure keep spec), some l => callP keep spec l args H
  | some (.ref fz spec), some l => callM fz spec l args H
  | _, _ => none

def acall (P : Program) (c : Option Con) (tys : List TypeId) (args : List AV) (H : AHeap) : Option (AV × AHeap) := acallR c (tysOf P tys) args H

def RLs (w : World) (F A : Nat → Prop) (m : Nat → Nat) (cs : List AV) (vs : Array Value) : Prop := RL w F A m cs vs.toList

def Callable (P : Program) (f : FuncId) : Prop := ∀ args w, (callFunc f args).run P w = .ok (.enter f args) w

/-- A contract holds. -/
def Sound (P : Program) (f : FuncId) : Con → Prop
  | .pure keep spec => Callable P f ∧ ∀ args r, spec args = some r → ∀ w F vs, (∀ cb, F cb → cb < w.heap.size) → RLs w F (fun _ => False) id args vs →
      Calls P f vs w fun e w' => ∃ v, e = .returned v ∧ RowKit.Below w.heap.size w w' ∧ RV w' (fun cb => F cb ∨ (keep = true ∧ cb < w.heap.size)) (fun _ => False) id r v
  | .ref _ spec => Callable P f ∧ ∀ args H r H', spec args H = some (r, H') → ∀ w F m vs, Inv w F (Nx H) m H → RLs w F (Nx H) m args vs →
      Calls P f vs w fun e w' => ∃ v F' m', e = .returned v ∧ Inv w' F' (Nx H') m' H' ∧ RV w' F' (Nx H') m' r v ∧ Evo w F (Nx H) m H w' F' (Nx H') m' H'

section
variable {P : Program} {w : World} {F A : Nat → Prop} {m : Nat → Nat} {H : AHeap}

/-- What may not be relied on, when some blocks are given up. -/
def less (F : Nat → Prop) (m : Nat → Nat) (S : List Nat) : Nat → Prop := fun cb => F cb ∧ ∀ b, b ∈ S → m b ≠ cb

theorem RV.less {a : AV} {v : Value} (S : List Nat) (h : RV w F A m a v) : RV w (less F m S) A m a v :=
  h.mono (Nat.le_refl _) (fun _ _ => rfl) (fun _ _ _ => rfl) (fun _ _ h => h.1) (fun _ h => ⟨h, rfl⟩)

theorem RV.lesser {a : AV} {v : Value} {S T : List Nat} (hs : ∀ b, b ∈ S → b ∈ T) (h : RV w (Abs.less F m S) A m a v) : RV w (Abs.less F m T) A m a v :=
  h.mono (Nat.le_refl _) (fun _ _ => rfl) (fun _ _ _ => rfl) (fun _ _ h => ⟨h.1, fun b hb => h.2 b (hs b hb)⟩) (fun _ h => ⟨h, rfl⟩)

theorem frzCell_sound {n : Option Nat} {a a' : AV} {S : List Nat} {v : Value} (h : frzCell H n a = some (a', S)) (I : Inv w F A m H) (hx : RV w F A m a v) :
    RV w (less F m S) A m a' v ∧ a'.flat = true ∧ ∀ b, b ∈ S → ∃ blk, H.get b = some blk := by
  unfold frzCell at h
  split at h
  · rename_i b sz off len
    split at h <;> try (cases h; done)
    rename_i blk hb
    split at h <;> try (cases h; done)
    rename_i hok
    obtain ⟨hfl, hsz, hfit⟩ := hok
    simp only [Option.some.injEq, Prod.mk.injEq] at h
    obtain ⟨rfl, rfl⟩ := h
    obtain ⟨c, hc, hr⟩ := I.blk b blk hb
    refine ⟨?_, rfl, fun b' hb' => by simp at hb'; subst hb'; exact ⟨_, hb⟩⟩
    cases hx with
    | sl b sz off len cap e hA hcap hm hs =>
      have hlen : ((blk.rows.drop off).take len).length = len := by simp; omega
      have hget : ∀ (i : Nat) (row : List AV), ((blk.rows.drop off).take len)[i]? = some row → blk.rows[off + i]? = some row := fun i row h => by
        rw [List.getElem?_take] at h
        split at h
        · rwa [List.getElem?_drop] at h
        · cases h
      have hex : ∀ (i : Nat) (row : List AV) (j : Nat) (a : AV), ((blk.rows.drop off).take len)[i]? = some row → row[j]? = some a →
          ∃ v, c[(off + i) * sz + j]? = some v ∧ v.oneCell' = true ∧ RV w F A m a v := fun i row j a h1 h2 => by
        have := hr.cell (off + i) row j a (hget i row h1) h2
        rwa [hsz] at this
      have := RV.rsl (w := w) (F := less F m [b]) (A := A) (m := m) sz ((blk.rows.drop off).take len) (m b) (off * sz) cap (fun i j => (c[(off + i) * sz + j]?).getD undef)
        (fun h => h.2 b (by simp) rfl) (I.bound _ (I.own b blk hb).2) (by omega)
        (fun row hrow => by rw [← hsz]; exact hr.wide row (List.mem_of_mem_drop (List.mem_of_mem_take hrow)))
        (fun row hrow => hr.flat hfl row (List.mem_of_mem_drop (List.mem_of_mem_take hrow)))
        (fun i row j a h1 h2 => by
          obtain ⟨v, q1, q2, _⟩ := hex i row j a h1 h2
          have e1 : (off + i) * sz + j = off * sz + (i * sz + j) := by rw [Nat.add_mul, Nat.add_assoc]
          rw [cell_of_row w (m b) _ c blk.e (0, 0) hc, ← e1, q1]
          exact ⟨rfl, q2⟩)
        (fun i row j a h1 h2 => by
          obtain ⟨v, q1, _, q3⟩ := hex i row j a h1 h2
          rw [q1]
          exact q3.less [b])
      rw [hlen] at this
      exact this
  · cases hx
    split at h
    · simp only [Option.some.injEq, Prod.mk.injEq] at h
      obtain ⟨rfl, rfl⟩ := h
      exact ⟨.rsl0 _ _ _ fun _ => rfl, rfl, by simp⟩
    · simp only [Option.some.injEq, Prod.mk.injEq] at h
      obtain ⟨rfl, rfl⟩ := h
      exact ⟨.nils, rfl, by simp⟩
  · simp only [Option.some.injEq, Prod.mk.injEq] at h
    obtain ⟨rfl, rfl⟩ := h
    cases hx
    exact ⟨.rsl0 _ _ _ (fun h => by cases h), rfl, by simp⟩
  · split at h <;> try (cases h; done)
    rename_i hfl
    simp only [Option.some.injEq, Prod.mk.injEq] at h
    obtain ⟨rfl, rfl⟩ := h
    exact ⟨hx.less [], hfl, by simp⟩

theorem frzCells_sound (I : Inv w F A m H) : ∀ (l : List (Option Nat)) (cs cs' : List AV) (S : List Nat) (vs : List Value), frzCells H l cs = some (cs', S) → RL w F A m cs vs →
    RL w (less F m S) A m cs' vs ∧ cs'.all AV.flat = true ∧ ∀ b, b ∈ S → ∃ blk, H.get b = some blk
  | [], [], cs', S, vs, h, hr => by
    simp only [frzCells, Option.some.injEq, Prod.mk.injEq] at h
    obtain ⟨rfl, rfl⟩ := h
    exact ⟨⟨hr.1, by simp⟩, rfl, by simp⟩
  | [], _ :: _, _, _, _, h, _ => by simp [frzCells] at h
  | _ :: _, [], _, _, _, h, _ => by simp [frzCells] at h
  | n :: l, a :: cs, cs', S, [], h, hr => by have := hr.1; simp at this
  | n :: l, a :: cs, cs', S, v :: vs, h, hr => by
    simp only [frzCells] at h
    split at h
    · rename_i a' S1 cs1 S2 h1 h2
      simp only [Option.some.injEq, Prod.mk.injEq] at h
      obtain ⟨rfl, rfl⟩ := h
      obtain ⟨q1, q2, q3⟩ := frzCell_sound h1 I (hr.2 0 a v rfl rfl)
      obtain ⟨p1, p2, p3⟩ := frzCells_sound I l cs cs1 S2 vs h2 ⟨by simpa using hr.1, fun i a v h1 h2 => hr.2 (i + 1) a v (by simpa using h1) (by simpa using h2)⟩
      refine ⟨⟨by simp [p1.1], fun i b u h3 h4 => ?_⟩, by simp [q2]; simpa using p2, fun b hb => ?_⟩
      · cases i with
        | zero => simp at h3 h4; subst h3 h4; exact q1.lesser (by simp; intro b hb; exact .inl hb)
        | succ i => exact (p1.2 i b u (by simpa using h3) (by simpa using h4)).lesser (by intro b hb; simp [hb])
      · rcases List.mem_append.1 hb with hb | hb
        · exact q3 b hb
        · exact p3 b hb
    · cases h

theorem frz_sound {l : List (Option Nat)} {a a' : AV} {S : List Nat} {v : Value} (h : frz H l a = some (a', S)) (I : Inv w F A m H) (hx : RV w F A m a v) :
    RV w (less F m S) A m a' v ∧ a'.closed = true ∧ (∀ vs, a' ≠ .tup vs) ∧ ∀ b, b ∈ S → ∃ blk, H.get b = some blk := by
  unfold frz at h
  split at h
  · split at h <;> try (cases h; done)
    rename_i cs _ cs' S' h1
    simp only [Option.some.injEq, Prod.mk.injEq] at h
    obtain ⟨rfl, rfl⟩ := h
    cases hx with
    | agg cs vs hl hc =>
      obtain ⟨q1, q2, q3⟩ := frzCells_sound I l cs cs' S' vs.toList h1 ⟨by simpa using hl, fun i a v h1 h2 => hc i a v h1 (by simpa using h2)⟩
      exact ⟨.agg _ _ (by simpa using q1.1) (fun i a v h1 h2 => q1.2 i a v h1 (by simpa using h2)), q2, (fun vs h => by cases h), q3⟩
  · obtain ⟨q1, q2, q3⟩ := frzCell_sound h I hx
    refine ⟨q1, ?_, ?_, q3⟩
    · cases a' <;> simp_all [AV.closed, AV.flat]
    · intro vs e; subst e; simp [AV.flat] at q2

/-- What refers to no owned memory: whatever the blocks are. -/
theorem RV.flat_any {A' : Nat → Prop} {m' : Nat → Nat} {a : AV} {v : Value} (h : RV w F A m a v) (hf : a.flat = true) : RV w F A' m' a v := by
  induction h with
  | int k n => exact .int k n
  | bool b => exact .bool b
  | str s => exact .str s
  | nilp => exact .nilp
  | nils => exact .nils
  | nilf => exact .nilf
  | esl sz a cap => exact .esl sz a cap
  | rsl0 sz a cap h0 => exact .rsl0 sz a cap h0
  | rsl sz rows cb co cap val hF hb hc hr hfl hv _ ih =>
    exact .rsl sz rows cb co cap val hF hb hc hr hfl hv fun i row j a h1 h2 => ih i row j a h1 h2 (hfl row (List.mem_of_getElem? h1) a (List.mem_of_getElem? h2))
  | _ => simp [AV.flat] at hf

theorem RV.closed_any {A' : Nat → Prop} {m' : Nat → Nat} {a : AV} {v : Value} (h : RV w F A m a v) (hf : a.closed = true) : RV w F A' m' a v := by
  have cell : ∀ {a : AV} {v : Value}, RV w F A m a v → (match a with | .agg cs => cs.all AV.flat | v => v.flat) = true → RV w F A' m' a v := by
    intro a v h hf
    split at hf
    · cases h with
      | agg cs vs hl hc => exact .agg _ _ hl fun i a v h1 h2 => (hc i a v h1 h2).flat_any (List.all_eq_true.1 hf a (List.mem_of_getElem? h1))
    · exact h.flat_any hf
  cases a with
  | tup vs =>
    cases h with
    | tup cs us hl hc => exact .tup _ _ hl fun i a v h1 h2 => cell (hc i a v h1 h2) (by have := List.all_eq_true.1 hf a (List.mem_of_getElem? h1); exact this)
  | _ => exact cell h hf

/-- What bears no slice: whatever may be relied on. -/
theorem RV.noSl_any {F' : Nat → Prop} {w' : World} {a : AV} {v : Value} (h : RV w F A m a v) (hf : a.noSl = true) {A' : Nat → Prop} {m' : Nat → Nat} : RV w' F' A' m' a v := by
  have cellC : ∀ {a : AV} {v : Value}, RV w F A m a v → a.noSlC = true → RV w' F' A' m' a v := by
    intro a v h hf
    cases h <;> first | (simp [AV.noSlC] at hf; done) | constructor
  have cell : ∀ {a : AV} {v : Value}, RV w F A m a v → (match a with | .agg cs => cs.all AV.noSlC | v => v.noSlC) = true → RV w' F' A' m' a v := by
    intro a v h hf
    split at hf
    · cases h with
      | agg cs vs hl hc => exact .agg _ _ hl fun i a v h1 h2 => cellC (hc i a v h1 h2) (List.all_eq_true.1 hf a (List.mem_of_getElem? h1))
    · exact cellC h hf
  cases a with
  | tup vs =>
    cases h with
    | tup cs us hl hc => exact .tup _ _ hl fun i a v h1 h2 => cell (hc i a v h1 h2) (by have := List.all_eq_true.1 hf a (List.mem_of_getElem? h1); exact this)
  | _ => exact cell h hf

theorem frzArgs_sound (I : Inv w F A m H) : ∀ (l : List (List (Option Nat))) (cs cs' : List AV) (S : List Nat) (vs : List Value), frzArgs H l cs = some (cs', S) → RL w F A m cs vs →
    RL w (less F m S) (fun _ => False) id cs' vs ∧ ∀ b, b ∈ S → ∃ blk, H.get b = some blk
  | [], [], cs', S, vs, h, hr => by
    simp only [frzArgs, Option.some.injEq, Prod.mk.injEq] at h
    obtain ⟨rfl, rfl⟩ := h
    exact ⟨⟨hr.1, by simp⟩, by simp⟩
  | [], _ :: _, _, _, _, h, _ => by simp [frzArgs] at h
  | _ :: _, [], _, _, _, h, _ => by simp [frzArgs] at h
  | n :: l, a :: cs, cs', S, [], h, hr => by have := hr.1; simp at this
  | n :: l, a :: cs, cs', S, v :: vs, h, hr => by
    simp only [frzArgs] at h
    split at h
    · rename_i a' S1 cs1 S2 h1 h2
      simp only [Option.some.injEq, Prod.mk.injEq] at h
      obtain ⟨rfl, rfl⟩ := h
      obtain ⟨q1, q2, _, q3⟩ := frz_sound h1 I (hr.2 0 a v rfl rfl)
      obtain ⟨p1, p3⟩ := frzArgs_sound I l cs cs1 S2 vs h2 ⟨by simpa using hr.1, fun i a v h1 h2 => hr.2 (i + 1) a v (by simpa using h1) (by simpa using h2)⟩
      refine ⟨⟨by simp [p1.1], fun i b u h3 h4 => ?_⟩, fun b hb => ?_⟩
      · cases i with
        | zero => simp at h3 h4; subst h3 h4; exact (q1.lesser (T := S1 ++ S2) (by intro b hb; simp [hb])).closed_any q2
        | succ i =>
          refine (p1.2 i b u (by simpa using h3) (by simpa using h4)).mono (Nat.le_refl _) (fun _ _ => rfl) (fun _ _ _ => rfl) (fun cb _ hcb => ⟨hcb.1, fun b hb => hcb.2 b (by simp [hb])⟩) (fun _ h => h.elim)
      · rcases List.mem_append.1 hb with hb | hb
        · exact q3 b hb
        · exact p3 b hb
    · cases h

theorem frzMask_sound (I : Inv w F A m H) : ∀ (ms : List Bool) (l : List (List (Option Nat))) (cs cs' : List AV) (S : List Nat) (vs : List Value), frzMask H ms l cs = some (cs', S) → RL w F A m cs vs →
    RL w (less F m S) A m cs' vs ∧ ∀ b, b ∈ S → ∃ blk, H.get b = some blk
  | [], l, cs, cs', S, vs, h, hr => by
    simp only [frzMask, Option.some.injEq, Prod.mk.injEq] at h
    obtain ⟨rfl, rfl⟩ := h
    exact ⟨⟨hr.1, fun i a v h1 h2 => (hr.2 i a v h1 h2).less []⟩, by simp⟩
  | true :: ms, [], _, _, _, _, h, _ => by simp [frzMask] at h
  | false :: ms, [], _, _, _, _, h, _ => by simp [frzMask] at h
  | true :: ms, _ :: _, [], _, _, _, h, _ => by simp [frzMask] at h
  | false :: ms, _ :: _, [], _, _, _, h, _ => by simp [frzMask] at h
  | _ :: ms, n :: l, a :: cs, cs', S, [], h, hr => by have := hr.1; simp at this
  | true :: ms, n :: l, a :: cs, cs', S, v :: vs, h, hr => by
    simp only [frzMask] at h
    split at h
    · rename_i a' S1 cs1 S2 h1 h2
      simp only [Option.some.injEq, Prod.mk.injEq] at h
      obtain ⟨rfl, rfl⟩ := h
      obtain ⟨q1, q2, _, q3⟩ := frz_sound h1 I (hr.2 0 a v rfl rfl)
      obtain ⟨p1, p3⟩ := frzMask_sound I ms l cs cs1 S2 vs h2 ⟨by simpa using hr.1, fun i a v h1 h2 => hr.2 (i + 1) a v (by simpa using h1) (by simpa using h2)⟩
      refine ⟨⟨by simp [p1.1], fun i b u h3 h4 => ?_⟩, fun b hb => ?_⟩
      · cases i with
        | zero => simp at h3 h4; subst h3 h4; exact q1.lesser (by intro b hb; simp [hb])
        | succ i => exact (p1.2 i b u (by simpa using h3) (by simpa using h4)).lesser (by intro b hb; simp [hb])
      · rcases List.mem_append.1 hb with hb | hb
        · exact q3 b hb
        · exact p3 b hb
    · cases h
  | false :: ms, n :: l, a :: cs, cs', S, v :: vs, h, hr => by
    simp only [frzMask] at h
    split at h
    · rename_i cs1 S2 h2
      simp only [Option.some.injEq, Prod.mk.injEq] at h
      obtain ⟨rfl, rfl⟩ := h
      obtain ⟨p1, p3⟩ := frzMask_sound I ms l cs cs1 S2 vs h2 ⟨by simpa using hr.1, fun i a v h1 h2 => hr.2 (i + 1) a v (by simpa using h1) (by simpa using h2)⟩
      refine ⟨⟨by simp [p1.1], fun i b u h3 h4 => ?_⟩, p3⟩
      cases i with
      | zero => simp at h3 h4; subst h3 h4; exact (hr.2 0 a v rfl rfl).less S2
      | succ i => exact p1.2 i b u (by simpa using h3) (by simpa using h4)
    · cases h

theorem killAll_sound (I : Inv w F A m H) {S : List Nat} (hS : ∀ b, b ∈ S → ∃ blk, H.get b = some blk) :
    Inv w (less F m S) A m (H.killAll S) ∧ Evo w F A m H w (less F m S) A m (H.killAll S) := by
  have hg : ∀ b x, (H.killAll S).get b = some x → b ∉ S ∧ H.get b = some x := fun b x h => by
    simp only [AHeap.killAll] at h
    split at h
    · cases h
    · rename_i hb; exact ⟨hb, h⟩
  refine ⟨⟨fun b x h => ?_, fun b x h => ?_, fun b b' x y h h' => ?_, fun cb h => I.bound cb h.1⟩,
    ⟨rfl, rfl, rfl, Nat.le_refl _, fun _ _ => rfl, fun _ _ _ => rfl, fun _ h => .inl h.1, fun cb _ hF hn => ⟨hF, fun b hb => ?_⟩, fun _ h => ⟨h, rfl⟩, fun b x h => .inl ⟨b, x, (hg b x h).2, rfl⟩⟩⟩
  · obtain ⟨h1, h2⟩ := hg b x h
    refine ⟨(I.own b x h2).1, (I.own b x h2).2, fun b' hb' he => ?_⟩
    obtain ⟨y, hy⟩ := hS b' hb'
    exact h1 (I.inj _ _ _ _ hy h2 he ▸ hb')
  · obtain ⟨h1, h2⟩ := hg b x h
    obtain ⟨c, hc, hr⟩ := I.blk b x h2
    exact ⟨c, hc, hr.fits, hr.wide, hr.flat, fun i row j a h1 h2 => let ⟨v, q1, q2, q3⟩ := hr.cell i row j a h1 h2; ⟨v, q1, q2, q3.less S⟩⟩
  · exact I.inj b b' x y (hg b x h).2 (hg b' y h').2
  · obtain ⟨y, hy⟩ := hS b hb
    exact hn b y hy

/-- Nothing that was there has turned. -/
theorem evo_below {w' : World} (hb : RowKit.Below w.heap.size w w') : Evo w F A m H w' F A m H where
  os := hb.os
  tape := hb.tape
  output := hb.output
  size := hb.size
  shape := fun cb hcb => shape?_of_heap (hb.block cb hcb)
  same := fun cb hcb _ => hb.block cb hcb
  forb := fun _ h => .inl h
  keep := fun _ _ h _ => h
  ext := fun _ h => ⟨h, rfl⟩
  owns := fun b x h => .inl ⟨b, x, h, rfl⟩

theorem inv_below {w' : World} (I : Inv w F A m H) (hb : RowKit.Below w.heap.size w w') : Inv w' F A m H where
  own := I.own
  inj := I.inj
  bound := fun cb h => Nat.lt_of_lt_of_le (I.bound cb h) hb.size
  blk := fun b x h => by
    obtain ⟨c, hc, hr⟩ := I.blk b x h
    refine ⟨c, by rw [hb.block _ (I.bound _ (I.own b x h).2)]; exact hc, hr.fits, hr.wide, hr.flat, fun i row j a h1 h2 => ?_⟩
    obtain ⟨v, q1, q2, q3⟩ := hr.cell i row j a h1 h2
    exact ⟨v, q1, q2, (evo_below (H := H) hb).rv I q3⟩

/-- A call. -/
theorem acall_sound {c : Option Con} {f : FuncId} {tys : List TypeId} {args : List AV} {vs : Array Value} {z : AV} {H' : AHeap} (h : acall P c tys args H = some (z, H')) (hc : ∀ k, c = some k → Sound P f k)
    (I : Inv w F (Nx H) m H) (ha : RLs w F (Nx H) m args vs) :
    Callable P f ∧ Calls P f vs w fun e w' => ∃ v F' m', e = .returned v ∧ Inv w' F' (Nx H') m' H' ∧ RV w' F' (Nx H') m' z v ∧ Evo w F (Nx H) m H w' F' (Nx H') m' H' := by
  unfold acall acallR at h
  split at h
  · rename_i keep spec l _
    obtain ⟨hcl, hs⟩ := hc _ rfl
    refine ⟨hcl, ?_⟩
    unfold callP at h
    split at h <;> try (cases h; done)
    rename_i args' S hfr
    split at h <;> try (cases h; done)
    rename_i r hr
    split at h <;> try (cases h; done)
    rename_i hcd
    obtain ⟨q1, q2⟩ := frzArgs_sound I l args args' S vs.toList hfr ha
    refine (hs args' r hr w (less F m S) vs (fun cb h => I.bound cb h.1) q1).mono ?_
    rintro e w' ⟨v, rfl, hb, hv⟩
    split at h
    · rename_i hcase
      simp only [Option.some.injEq, Prod.mk.injEq] at h
      obtain ⟨rfl, rfl⟩ := h
      refine ⟨v, F, m, rfl, inv_below I hb, ?_, evo_below hb⟩
      rcases hcase with rfl | hns | rfl
      · have : less F m [] = F := by funext cb; simp [less]
        rw [this] at hv
        exact (hv.mono (F' := F) (Nat.le_refl _) (fun _ _ => rfl) (fun _ _ _ => rfl) (fun _ _ h => .inl h) (fun _ h => ⟨h, rfl⟩)).closed_any hcd
      · exact hv.noSl_any hns
      · exact (hv.mono (F' := F) (Nat.le_refl _) (fun _ _ => rfl) (fun _ _ _ => rfl) (fun cb _ h => .inr ⟨rfl, I.bound cb h⟩) (fun _ h => ⟨h, rfl⟩)).closed_any hcd
    · simp only [Option.some.injEq, Prod.mk.injEq] at h
      obtain ⟨rfl, rfl⟩ := h
      obtain ⟨I1, E1⟩ := killAll_sound I q2
      exact ⟨v, less F m S, m, rfl, inv_below I1 hb, (hv.mono (F' := less F m S) (Nat.le_refl _) (fun _ _ => rfl) (fun _ _ _ => rfl) (fun _ _ h => .inl h) (fun _ h => ⟨h, rfl⟩)).closed_any hcd, E1.trans (evo_below hb)⟩
  · rename_i fz spec l _
    obtain ⟨hcl, hs⟩ := hc _ rfl
    refine ⟨hcl, ?_⟩
    unfold callM at h
    split at h <;> try (cases h; done)
    rename_i args' S hfr
    obtain ⟨q1, q2⟩ := frzMask_sound I fz l args args' S vs.toList hfr ha
    split at h
    · rename_i hS
      subst hS
      have : less F m [] = F := by funext cb; simp [less]
      rw [this] at q1
      exact hs args' H z H' h w F m vs I q1
    · obtain ⟨I1, E1⟩ := killAll_sound I q2
      refine (hs args' (H.killAll S) z H' h w (less F m S) m vs I1 q1).mono ?_
      rintro e w' ⟨v, F', m', rfl, p1, p2, p3⟩
      exact ⟨v, F', m', rfl, p1, p2, Evo.trans (H' := H.killAll S) E1 p3⟩
  · cases h
end
end Go.Abs
