/-
  Abstract operations on memory, and that the model's do as they say.
-/
import Derived.Test.YtgcfbommjdcgkaaAbs2
set_option linter.unusedSimpArgs false
set_option linter.unusedVariables false
namespace Go.Abs

def AV.isCell : AV → Bool
  | .undef | .agg _ | .tup _ => false
  | _ => true

def readRowR (r : Option (Option Nat)) (row : List AV) (j : Nat) : Option AV :=
  match r with
  | some (some n) => if j + n ≤ row.length then some (.agg ((row.drop j).take n)) else none
  | some none => row[j]?
  | none => none

def readRow (P : Program) (t : TypeId) (row : List AV) (j : Nat) : Option AV := readRowR (rdOf P t) row j

theorem readRow_old (P : Program) (t : TypeId) (row : List AV) (j : Nat) : readRow P t row j =
    match aggT P t, szOf P t with
    | some true, some n => if j + n ≤ row.length then some (.agg ((row.drop j).take n)) else none
    | some false, some _ => row[j]?
    | _, _ => none := by
  unfold readRow rdOf
  cases aggT P t with
  | none => cases szOf P t <;> rfl
  | some b => cases b <;> cases szOf P t <;> rfl

def aloadR (r : Option (Option Nat)) (p : AV) (H : AHeap) : Option AV :=
  match p with
  | .ptr b sz i j =>
    match H.get b with
    | some blk => if blk.sz = sz then (match blk.rows[i]? with | some row => readRowR r row j | none => none) else none
    | none => none
  | .rptr _ rows i j => match rows[i]? with | some row => readRowR r row j | none => none
  | _ => none

def aload (P : Program) (t : TypeId) (p : AV) (H : AHeap) : Option AV := aloadR (rdOf P t) p H

def setCells (row : List AV) (j : Nat) : List AV → List AV
  | [] => row
  | c :: cs => setCells (row.set j c) (j + 1) cs

def astoreR (k : Option Nat) (p v : AV) (H : AHeap) : Option AHeap :=
  match p with
  | .ptr b sz i j =>
    match H.get b, v.cells?, k with
    | some blk, some cs, some n =>
      if blk.sz = sz ∧ cs.length = n ∧ cs.all AV.isCell = true then
        match blk.rows[i]? with
        | some row => if j + n ≤ sz then some (H.set b (some { e := blk.e, sz := blk.sz, flat := blk.flat && cs.all AV.flat, rows := blk.rows.set i (setCells row j cs) })) else none
        | none => none
      else none
    | _, _, _ => none
  | _ => none

def astore (P : Program) (t : TypeId) (p v : AV) (H : AHeap) : Option AHeap := astoreR (szOf P t) p v H

/-- A new block of one row. -/
def abox (e : TypeId) (v : AV) (H : AHeap) : Option (AV × AHeap) :=
  match v.cells? with
  | some cs => if cs.all AV.isCell = true then some (.ptr H.next cs.length 0 0, H.push { e, sz := cs.length, flat := cs.all AV.flat, rows := [cs] }) else none
  | none => none

def zeroOf (P : Program) (e : TypeId) : Option AV :=
  match P.info? e with
  | some i => match i.zero with
    | some z => some (ofConst z)
    | none => none
  | none => none

def aallocR (e : TypeId) (z : Option AV) (H : AHeap) : Option (AV × AHeap) :=
  match z with
  | some z => abox e z H
  | none => none

def aalloc (P : Program) (e : TypeId) (H : AHeap) : Option (AV × AHeap) := aallocR e (zeroOf P e) H

theorem aalloc_old (P : Program) (e : TypeId) (H : AHeap) : aalloc P e H =
    match P.info? e with
    | some i => match i.zero with
      | some z => abox e (ofConst z) H
      | none => none
    | none => none := by
  unfold aalloc zeroOf
  cases P.info? e with
  | none => rfl
  | some i => dsimp only; cases i.zero <;> rfl

/-- Cells in rows of sz, as many as are asked for. -/
def chunks (sz : Nat) : Nat → List AV → List (List AV)
  | 0, _ => []
  | n + 1, cs => cs.take sz :: chunks sz n (cs.drop sz)

def reps (zero : List AV) : Nat → List AV
  | 0 => []
  | n + 1 => zero ++ reps zero n

/-- What is known of a slice type's elements: the type, cells, bytes, the zero's cells. -/
structure EK where
  e : TypeId
  size : Nat
  bytes : Nat
  zero : List AV

def ekOf (P : Program) (t : TypeId) : Option EK :=
  match P.underlying t with
  | some (.slice e) =>
    match P.info? e with
    | some i =>
      match i.zero with
      | some z => if z.cells.size = i.size ∧ 0 < i.size then some ⟨e, i.size, i.bytes, z.cells.toList.map ofCell⟩ else none
      | none => none
    | none => none
  | _ => none

theorem ekOf_some {P : Program} {t : TypeId} {k : EK} (h : ekOf P t = some k) : ∃ i z, P.underlying t = some (.slice k.e) ∧ P.info? k.e = some i ∧ i.zero = some z ∧ z.cells.size = i.size ∧ 0 < i.size ∧
    k.size = i.size ∧ k.bytes = i.bytes ∧ k.zero = z.cells.toList.map ofCell := by
  unfold ekOf at h
  split at h <;> try (cases h; done)
  rename_i e hu
  split at h <;> try (cases h; done)
  rename_i i hi
  split at h <;> try (cases h; done)
  rename_i z hz
  split at h <;> try (cases h; done)
  rename_i hok
  simp only [Option.some.injEq] at h
  subst h
  exact ⟨i, z, hu, hi, hz, hok.1, hok.2, rfl, rfl, rfl⟩

def abuildSliceR (k : Option EK) (len : Nat) (parts : List (Nat × AV)) (H : AHeap) : Option (AV × AHeap) :=
  match k with
  | some k =>
    if len * k.size ≤ 16777216 then
      match afill (fun q => some (q * k.size, k.size)) (reps k.zero len) parts with
      | some cs => if cs.all AV.isCell = true then some (.sl H.next k.size 0 len, H.push { e := k.e, sz := k.size, flat := cs.all AV.flat, rows := chunks k.size len cs }) else none
      | none => none
    else none
  | none => none

def abuildSlice (P : Program) (t : TypeId) (len : Nat) (parts : List (Nat × AV)) (H : AHeap) : Option (AV × AHeap) := abuildSliceR (ekOf P t) len parts H

def amakeR (k : Option EK) (l c : AV) (H : AHeap) : Option (AV × AHeap) :=
  match k, l, c with
  | some k, .int _ n, .int _ q =>
    if 0 ≤ n ∧ n ≤ q ∧ (k.bytes : Int) * q ≤ 140737488355328 ∧ 0 < k.bytes ∧ k.zero.all AV.isCell = true then
      some (.sl H.next k.size 0 n.toNat, H.push { e := k.e, sz := k.size, flat := k.zero.all AV.flat, rows := List.replicate n.toNat k.zero })
    else none
  | _, _, _ => none

def amake (P : Program) (t : TypeId) (l c : AV) (H : AHeap) : Option (AV × AHeap) := amakeR (ekOf P t) l c H

/-- A slice's rows, to be read. -/
def rowsOf (x : AV) (sz : Nat) (H : AHeap) : Option (List (List AV) × Bool) :=
  match x with
  | .nils => some ([], true)
  | .esl _ => some ([], true)
  | .rsl s rows => if s = sz then some (rows, true) else none
  | .sl b s off len =>
    match H.get b with
    | some blk => if s = sz ∧ blk.sz = sz ∧ off + len ≤ blk.rows.length then some ((blk.rows.drop off).take len, blk.flat) else none
    | none => none
  | _ => none

def aappendR (k : Option EK) (s x : AV) (H : AHeap) : Option (AV × AHeap) :=
  match k with
  | some k =>
    match rowsOf x k.size H with
    | some (new, fl) =>
      if 0 < k.bytes then
        match s with
        | .nils =>
          if new.length * k.bytes ≤ 140737488355328 then
            (if new = [] then some (.nils, { next := H.next + 1, get := H.get }) else some (.sl H.next k.size 0 new.length, H.push { e := k.e, sz := k.size, flat := fl, rows := new }))
          else none
        | .sl b sz 0 len =>
          match H.get b with
          | some blk =>
            if sz = k.size ∧ blk.sz = sz ∧ blk.e = k.e ∧ blk.rows.length = len ∧ (len + new.length) * k.bytes ≤ 140737488355328 then
              some (.sl H.next sz 0 (len + new.length), (H.set b none).push { e := k.e, sz, flat := blk.flat && fl, rows := blk.rows ++ new })
            else none
          | none => none
        | _ => none
      else none
    | none => none
  | none => none

def aappend (P : Program) (t : TypeId) (s x : AV) (H : AHeap) : Option (AV × AHeap) := aappendR (ekOf P t) s x H

section
variable {P : Program} {w : World} {F A : Nat → Prop} {m : Nat → Nat} {H : AHeap}

theorem isCell_one {a : AV} {v : Value} (h : a.isCell = true) (hx : RV w F A m a v) : v.oneCell' = true := by
  cases hx <;> first | rfl | (simp [AV.isCell] at h)

/-- Some cells that lie one behind the other. -/
theorem readRow_sound {t : TypeId} {row : List AV} {j : Nat} {z : AV} (h : readRow P t row j = some z) (cb o : Nat) (val : Nat → Value)
    (hv : ∀ (k : Nat) (a : AV), row[k]? = some a → w.cell? ⟨cb, o + k, none⟩ = some (val k)) (hx : ∀ (k : Nat) (a : AV), row[k]? = some a → RV w F A m a (val k)) :
    ∃ r, (loadVar t ⟨cb, o + j, none⟩).run P w = .ok r w ∧ RV w F A m z r := by
  rw [readRow_old] at h
  split at h
  · rename_i n ha hn
    split at h <;> try (cases h; done)
    rename_i hle
    simp only [Option.some.injEq] at h
    subst h
    have hl := run_loadCells_list (P := P) w ⟨cb, o + j, none⟩ ((List.range n).map fun k => val (j + k)) (fun k v hk => by
      have hk2 : k < n := by have := (List.getElem?_eq_some_iff.1 hk).1; simpa using this
      have hk3 : v = val (j + k) := by simpa [hk2] using hk.symm
      have hlt : j + k < row.length := by omega
      rw [add_lit, Nat.add_assoc, hk3]
      exact hv (j + k) row[j + k] (by simp [hlt]))
    have hlen : ((List.range n).map fun k => val (j + k)).length = n := by simp
    rw [hlen] at hl
    refine ⟨.agg ((List.range n).map fun k => val (j + k)).toArray, by simp [loadVar, run_isAgg ha, run_sizeOf hn, hl], .agg _ _ (by simp; omega) ?_⟩
    intro i a v h1 h2
    rw [List.getElem?_take] at h1
    split at h1
    · rename_i hi
      rw [List.getElem?_drop] at h1
      simp [hi] at h2
      subst h2
      exact hx _ a h1
    · cases h1
  · rename_i n ha hn
    exact ⟨val j, by simp [loadVar, run_isAgg ha, hv j z h], hx j z h⟩
  · cases h

theorem aload_sound {t : TypeId} {p z : AV} {v : Value} (h : aload P t p H = some z) (I : Inv w F A m H) (hp : RV w F A m p v) :
    ∃ r, (Instr.loadAt t v).run P w = .ok r w ∧ RV w F A m z r := by
  unfold aload aloadR at h
  split at h
  · rename_i b sz i j
    split at h <;> try (cases h; done)
    rename_i blk hb
    split at h <;> try (cases h; done)
    rename_i hsz
    subst hsz
    split at h <;> try (cases h; done)
    rename_i row hrow
    cases hp with
    | ptr b sz i j hA =>
      obtain ⟨c, hc, hr⟩ := I.blk b blk hb
      have hex : ∀ k a, row[k]? = some a → ∃ v, c[i * blk.sz + k]? = some v ∧ v.oneCell' = true ∧ RV w F A m a v := fun k a ha => hr.cell i row k a hrow ha
      obtain ⟨r, h1, h2⟩ := readRow_sound (t := t) (w := w) (F := F) (A := A) (m := m) h (m b) (i * blk.sz) (fun k => (c[i * blk.sz + k]?).getD undef)
        (fun k a ha => by
          obtain ⟨v, hv, _, _⟩ := hex k a ha
          rw [cell_of_row w (m b) _ c blk.e (0, 0) hc, hv]; rfl)
        (fun k a ha => by
          obtain ⟨v, hv, _, hx⟩ := hex k a ha
          rw [hv]; exact hx)
      exact ⟨r, by simp [Instr.loadAt, Instr.sureAddr, h1], h2⟩
  · rename_i sz rows i j
    split at h <;> try (cases h; done)
    rename_i row hrow
    cases hp with
    | rptr sz rows i j cb co val hF hb hr hfl hv hrv =>
      obtain ⟨r, h1, h2⟩ := readRow_sound (t := t) (w := w) (F := F) (A := A) (m := m) h cb (co + i * sz) (fun k => val i k)
        (fun k a ha => by rw [Nat.add_assoc]; exact (hv i row k a hrow ha).1) (fun k a ha => hrv i row k a hrow ha)
      rw [Nat.add_assoc] at h1
      exact ⟨r, by simp [Instr.loadAt, Instr.sureAddr, h1], h2⟩
  · cases h

theorem length_setCells : ∀ (cs row : List AV) (j : Nat), (setCells row j cs).length = row.length
  | [], _, _ => rfl
  | c :: cs, row, j => by simp [setCells, length_setCells cs]

theorem getElem?_setCells : ∀ (cs row : List AV) (j k : Nat), j + cs.length ≤ row.length → (setCells row j cs)[k]? = if j ≤ k ∧ k < j + cs.length then cs[k - j]? else row[k]?
  | [], row, j, k, h => by
    simp only [setCells, List.length_nil, Nat.add_zero]
    rw [if_neg (by omega)]
  | c :: cs, row, j, k, h => by
    simp only [List.length_cons] at h
    simp only [setCells]
    rw [getElem?_setCells cs (row.set j c) (j + 1) k (by simp; omega)]
    by_cases h1 : j + 1 ≤ k ∧ k < j + 1 + cs.length
    · rw [if_pos h1, if_pos (by simp only [List.length_cons]; omega)]
      obtain ⟨q, rfl⟩ : ∃ q, k = j + 1 + q := ⟨k - (j + 1), by omega⟩
      have e1 : j + 1 + q - (j + 1) = q := by omega
      have e2 : j + 1 + q - j = q + 1 := by omega
      rw [e1, e2, List.getElem?_cons_succ]
    · rw [if_neg h1]
      by_cases h2 : k = j
      · subst h2
        rw [if_pos (by simp only [List.length_cons]; omega), Nat.sub_self, List.getElem?_set]
        simp; omega
      · rw [if_neg (by simp only [List.length_cons]; omega), List.getElem?_set, if_neg (fun e => h2 e.symm)]

theorem mem_setCells : ∀ (cs row : List AV) (j : Nat) (a : AV), a ∈ setCells row j cs → a ∈ row ∨ a ∈ cs
  | [], _, _, _, h => .inl h
  | c :: cs, row, j, a, h => by
    rcases mem_setCells cs _ _ a h with h | h
    · rcases List.mem_or_eq_of_mem_set h with h | rfl
      · exact .inl h
      · exact .inr (by simp)
    · exact .inr (by simp [h])

/-- A row of a block is overwritten. -/
theorem setRow_sound {b : Nat} {blk blk' : Blk} {c : Array Value} {c' : Array Value} (he : blk'.e = blk.e) (I : Inv w F A m H) (hb : H.get b = some blk) (hc : w.heap[m b]? = some (.cells c blk.e (0, 0)))
    (hs : c'.size = c.size) (hr : RRows w F A m blk' c') :
    Inv (w.setRow (m b) c') F A m (H.set b (some blk')) ∧ Evo w F A m H (w.setRow (m b) c') F A m (H.set b (some blk')) := by
  have hnew : (w.setRow (m b) c').heap[m b]? = some (.cells c' blk.e (0, 0)) := setRow_heap w (m b) c c' blk.e (0, 0) hc
  have hoth : ∀ k, k ≠ m b → (w.setRow (m b) c').heap[k]? = w.heap[k]? := fun k hk => setRow_other w (m b) k c' (by simpa using hk)
  have hmono : ∀ {a : AV} {v : Value}, RV w F A m a v → RV (w.setRow (m b) c') F A m a v := fun h =>
    h.mono (by simp) (fun cb _ => by
      by_cases e : cb = m b
      · subst e; rw [shape_of_cells hnew, shape_of_cells hc, hs]
      · exact shape?_of_heap (hoth cb e)) (fun cb _ hF => hoth cb fun e => hF (e ▸ (I.own b blk hb).2)) (fun _ _ h => h) (fun _ h => ⟨h, rfl⟩)
  refine ⟨⟨?_, ?_, ?_, ?_⟩, ⟨rfl, rfl, rfl, by simp, ?_, ?_, fun _ h => .inl h, fun _ _ h _ => h, fun _ h => ⟨h, rfl⟩, ?_⟩⟩
  · intro b' blk2 hb'
    rw [AHeap.get_set] at hb'
    split at hb'
    · rename_i e; subst e; exact I.own _ blk hb
    · exact I.own _ _ hb'
  · intro b' blk2 hb'
    rw [AHeap.get_set] at hb'
    split at hb'
    · rename_i e
      subst e
      simp only [Option.some.injEq] at hb'
      subst hb'
      exact ⟨c', by rw [he]; exact hnew, hr.fits, hr.wide, hr.flat, fun i row j a h1 h2 => let ⟨v, q1, q2, q3⟩ := hr.cell i row j a h1 h2; ⟨v, q1, q2, hmono q3⟩⟩
    · rename_i e
      obtain ⟨c2, h2, hr2⟩ := I.blk b' blk2 hb'
      have hne : m b' ≠ m b := fun e' => e (I.inj b' b blk2 blk hb' hb e')
      exact ⟨c2, by rw [hoth _ hne]; exact h2, hr2.fits, hr2.wide, hr2.flat, fun i row j a h1 h2 => let ⟨v, q1, q2, q3⟩ := hr2.cell i row j a h1 h2; ⟨v, q1, q2, hmono q3⟩⟩
  · intro b1 b2 x y h1 h2 he
    rw [AHeap.get_set] at h1 h2
    have g : ∀ b' z, (if b' = b then some blk' else H.get b') = some z → ∃ z', H.get b' = some z' := by
      intro b' z hz
      split at hz
      · rename_i e; subst e; exact ⟨_, hb⟩
      · exact ⟨_, hz⟩
    obtain ⟨x', h1'⟩ := g _ _ h1
    obtain ⟨y', h2'⟩ := g _ _ h2
    exact I.inj _ _ _ _ h1' h2' he
  · intro cb hcb; simpa using I.bound cb hcb
  · intro cb hcb
    by_cases e : cb = m b
    · subst e; rw [shape_of_cells hnew, shape_of_cells hc, hs]
    · exact shape?_of_heap (hoth cb e)
  · intro cb _ hn
    exact hoth cb fun e => hn b blk hb e.symm
  · intro b' blk2 hb'
    rw [AHeap.get_set] at hb'
    split at hb'
    · rename_i e; subst e; exact .inl ⟨_, _, hb, rfl⟩
    · exact .inl ⟨_, _, hb', rfl⟩

theorem astore_sound {t : TypeId} {p x : AV} {v u : Value} {H' : AHeap} (h : astore P t p x H = some H') (I : Inv w F A m H) (hp : RV w F A m p v) (hx : RV w F A m x u) :
    ∃ w', (Instr.storeAt t v u).run P w = .ok () w' ∧ Inv w' F A m H' ∧ Evo w F A m H w' F A m H' := by
  unfold astore astoreR at h
  split at h <;> try (cases h; done)
  rename_i b sz i j
  split at h <;> try (cases h; done)
  rename_i blk cs n hb hcs hn
  split at h <;> try (cases h; done)
  rename_i hok
  obtain ⟨hsz, hlen, hall⟩ := hok
  subst hsz hlen
  split at h <;> try (cases h; done)
  rename_i row hrow
  split at h <;> try (cases h; done)
  rename_i hfit
  simp only [Option.some.injEq] at h
  subst h
  cases hp with
  | ptr b sz i j hA =>
    obtain ⟨c, hc, hr⟩ := I.blk b blk hb
    have hrl : row.length = blk.sz := hr.wide row (List.mem_of_getElem? hrow)
    have hi : i < blk.rows.length := (List.getElem?_eq_some_iff.1 hrow).1
    have hcv := cells_sound hcs hx
    have hone : ∀ y ∈ u.cells.toList, y.oneCell' = true := by
      intro y hy
      obtain ⟨k, hk⟩ := List.mem_iff_getElem?.1 hy
      have hk' : k < cs.length := by rw [hcv.1]; exact (List.getElem?_eq_some_iff.1 hk).1
      have hmem : cs[k] ∈ cs := List.getElem_mem hk'
      exact isCell_one (List.all_eq_true.1 hall _ hmem) (hcv.2 k cs[k] y (by simp [hk']) hk)
    have hin : i * blk.sz + blk.sz ≤ blk.rows.length * blk.sz := by
      have := Nat.mul_le_mul_right blk.sz (show i + 1 ≤ blk.rows.length from hi)
      rwa [Nat.add_mul, Nat.one_mul] at this
    have hul : u.cells.toList.length = cs.length := hcv.1.symm
    have hfits : i * blk.sz + j + u.cells.toList.length ≤ c.size := by have := hr.fits; omega
    have hst := run_storeCells_at P (m b) (i * blk.sz + j) blk.e u.cells.toList 0 c w hc (by simpa using hfits) hone
    simp only [Nat.add_zero] at hst
    have hsz' : u.cells.size = cs.length := by simpa using hul
    obtain ⟨q1, q2⟩ := setRow_sound (blk := blk) (blk' := { e := blk.e, sz := blk.sz, flat := blk.flat && cs.all AV.flat, rows := blk.rows.set i (setCells row j cs) }) (c' := (c.toList.take (i * blk.sz + j) ++ u.cells.toList ++ c.toList.drop (i * blk.sz + j + u.cells.toList.length)).toArray) rfl I hb hc
      (by simp only [List.size_toArray, List.length_append, List.length_take, List.length_drop, Array.length_toList]; simp only [Array.length_toList] at hfits; omega)
      ⟨by simp only [List.length_set, List.size_toArray, List.length_append, List.length_take, List.length_drop, Array.length_toList]; simp only [Array.length_toList] at hfits; have := hr.fits; omega,
       fun row' hm => by
         rcases List.mem_or_eq_of_mem_set hm with hm | rfl
         · exact hr.wide row' hm
         · rw [length_setCells, hrl],
       fun hff row' hm a ha => by
         rw [Bool.and_eq_true] at hff
         rcases List.mem_or_eq_of_mem_set hm with hm | rfl
         · exact hr.flat hff.1 row' hm a ha
         · rcases mem_setCells cs row j a ha with h | h
           · exact hr.flat hff.1 row (List.mem_of_getElem? hrow) a h
           · exact List.all_eq_true.1 hff.2 a h,
       fun i' row' j' a h1 h2 => by
         have key : ∀ q, (c.toList.take (i * blk.sz + j) ++ u.cells.toList ++ c.toList.drop (i * blk.sz + j + u.cells.toList.length)).toArray[q]? =
             if i * blk.sz + j ≤ q ∧ q < i * blk.sz + j + cs.length then u.cells.toList[q - (i * blk.sz + j)]? else c[q]? := by
           intro q
           have hmin : min (i * blk.sz + j) c.size = i * blk.sz + j := by simp only [Array.length_toList] at hfits; omega
           simp only [List.getElem?_toArray, List.getElem?_append, List.length_append, List.length_take, Array.length_toList, hmin, List.getElem?_take, List.getElem?_drop, hsz']
           by_cases h1 : q < i * blk.sz + j
           · rw [if_pos (by omega), if_pos h1, if_pos h1, if_neg (by omega)]; simp
           · by_cases h2 : q < i * blk.sz + j + cs.length
             · rw [if_pos h2, if_neg h1, if_pos (by omega)]
             · rw [if_neg h2, if_neg (by omega)]
               have : i * blk.sz + j + cs.length + (q - (i * blk.sz + j + cs.length)) = q := by omega
               rw [this]; simp
         dsimp only at h1 ⊢
         rw [List.getElem?_set] at h1
         split at h1
         · rename_i e
           subst e
           simp only [if_pos hi, Option.some.injEq] at h1
           subst h1
           rw [getElem?_setCells cs row j j' (by omega)] at h2
           rw [key]
           split at h2
           · rename_i hj
             rw [if_pos (by omega)]
             have e : i * blk.sz + j' - (i * blk.sz + j) = j' - j := by omega
             rw [e]
             have hk : j' - j < u.cells.toList.length := by omega
             refine ⟨u.cells.toList[j' - j], by simp [hk], hone _ (List.getElem_mem hk), hcv.2 _ a _ h2 (by simp [hk])⟩
           · rename_i hj
             rw [if_neg (by omega)]
             exact hr.cell i row j' a hrow h2
         · rename_i hne
           rw [key]
           have hj' : j' < blk.sz := by
             have hw := hr.wide row' (List.mem_of_getElem? h1)
             have := (List.getElem?_eq_some_iff.1 h2).1
             omega
           rw [if_neg ?_]
           · exact hr.cell i' row' j' a h1 h2
           · intro hq
             rcases Nat.lt_or_ge i i' with hlt | hge
             · have := Nat.mul_le_mul_right blk.sz (show i + 1 ≤ i' from hlt)
               rw [Nat.add_mul, Nat.one_mul] at this
               omega
             · have hlt : i' < i := by omega
               have := Nat.mul_le_mul_right blk.sz (show i' + 1 ≤ i from hlt)
               rw [Nat.add_mul, Nat.one_mul] at this
               omega⟩
    exact ⟨_, by simp [Instr.storeAt, Instr.sureAddr, storeVar, run_sizeOf hn, hsz', hst], q1, q2⟩
end
end Go.Abs
