/-
  Abstract values, an abstract heap of owned blocks, and what it is for a world to be as they say.
-/
import Derived.Orders
import Derived.Below
import Derived.Laws.AppendOwn
import Derived.Laws.OwnMore
import Derived.Laws.MakeOwn
import Derived.Laws.Slices
import Derived.Laws.CopyRow
set_option linter.unusedSimpArgs false
set_option linter.unusedVariables false
namespace Go.Abs

/-- An abstract value. 'ptr b sz i j': cell j of row i of the owned block b, whose rows have sz cells. 'rsl sz rows': a slice that is only read, by its content. 'esl': an empty one that is not nil. -/
inductive AV where
  | undef
  | int (k : IntKind) (n : Int)
  | bool (b : Bool)
  | str (s : ByteArray)
  | agg (cs : List AV)
  | tup (vs : List AV)
  | nilp
  | nils
  | nilf
  | ptr (b sz i j : Nat)
  | rptr (sz : Nat) (rows : List (List AV)) (i j : Nat)
  | sl (b sz off len : Nat)
  | rsl (sz : Nat) (rows : List (List AV))
  | esl (sz : Nat)
  | clo (f : FuncId) (first caps : List AV)

instance : Inhabited AV := ⟨.undef⟩

/-- What bears no reference of its own to owned memory. -/
def AV.flat : AV → Bool
  | .int .. | .bool _ | .str _ | .nilp | .nils | .nilf | .rsl .. | .esl _ => true
  | _ => false

def flatRows (rows : List (List AV)) : Prop := ∀ row, row ∈ rows → ∀ a, a ∈ row → a.flat = true

/-- An owned block: its element type, cells a row, whether no cell refers to owned memory, its rows. -/
structure Blk where
  e : TypeId
  sz : Nat
  flat : Bool
  rows : List (List AV)

structure AHeap where
  next : Nat
  get : Nat → Option Blk

abbrev AFr := Nat → AV

def AFr.upd (fr : AFr) (d : Nat) (v : AV) : AFr := fun j => if j = d then v else fr j

theorem AFr.upd_eq (fr : AFr) (d : Nat) (v : AV) : fr.upd d v d = v := by simp [AFr.upd]
theorem AFr.upd_ne (fr : AFr) (d j : Nat) (v : AV) (h : j ≠ d) : fr.upd d v j = fr j := by simp [AFr.upd, h]

def AFr.put (fr : AFr) : Option Nat → AV → AFr
  | some d, v => fr.upd d v
  | none, _ => fr

def AHeap.set (H : AHeap) (b : Nat) (x : Option Blk) : AHeap := { next := H.next, get := fun j => if j = b then x else H.get j }
def AHeap.push (H : AHeap) (x : Blk) : AHeap := { next := H.next + 1, get := fun j => if j = H.next then some x else H.get j }
def AHeap.empty : AHeap := { next := 0, get := fun _ => none }

theorem AHeap.get_set (H : AHeap) (b j : Nat) (x : Option Blk) : (H.set b x).get j = if j = b then x else H.get j := rfl
theorem AHeap.get_push (H : AHeap) (j : Nat) (x : Blk) : (H.push x).get j = if j = H.next then some x else H.get j := rfl
theorem AHeap.next_set (H : AHeap) (b : Nat) (x : Option Blk) : (H.set b x).next = H.next := rfl
theorem AHeap.next_push (H : AHeap) (x : Blk) : (H.push x).next = H.next + 1 := rfl

/-- w bears v as a says. F: the blocks of w that a reader may not rely on; A: the abstract blocks that there are; m: where they lie. -/
inductive RV (w : World) (F A : Nat → Prop) (m : Nat → Nat) : AV → Value → Prop
  | undef (v : Value) : RV w F A m .undef v
  | int (k : IntKind) (n : Int) : RV w F A m (.int k n) (.int k n)
  | bool (b : Bool) : RV w F A m (.bool b) (.bool b)
  | str (s : ByteArray) : RV w F A m (.str s) (.string s)
  | agg (cs : List AV) (vs : Array Value) (hl : cs.length = vs.size) (h : ∀ (i : Nat) (a : AV) (v : Value), cs[i]? = some a → vs[i]? = some v → RV w F A m a v) : RV w F A m (.agg cs) (.agg vs)
  | tup (cs : List AV) (vs : Array Value) (hl : cs.length = vs.size) (h : ∀ (i : Nat) (a : AV) (v : Value), cs[i]? = some a → vs[i]? = some v → RV w F A m a v) : RV w F A m (.tup cs) (.tuple vs)
  | nilp : RV w F A m .nilp (.pointer none)
  | nils : RV w F A m .nils (.slice none 0 0)
  | nilf : RV w F A m .nilf .nilFunc
  | ptr (b sz i j : Nat) (hA : A b) : RV w F A m (.ptr b sz i j) (.pointer (some ⟨m b, i * sz + j, none⟩))
  | sl (b sz off len cap : Nat) (e : TypeId) (hA : A b) (hc : len ≤ cap) (hm : cap ≤ maxLen) (hs : w.shape? (m b) = some (e, (off + cap) * sz)) :
      RV w F A m (.sl b sz off len) (.slice (some ⟨m b, off * sz, none⟩) len cap)
  | esl (sz : Nat) (a : Addr) (cap : Nat) : RV w F A m (.esl sz) (.slice (some a) 0 cap)
  | rsl0 (sz : Nat) (a : Option Addr) (cap : Nat) (h0 : a = none → cap = 0) : RV w F A m (.rsl sz []) (.slice a 0 cap)
  | rsl (sz : Nat) (rows : List (List AV)) (cb co cap : Nat) (val : Nat → Nat → Value) (hF : ¬ F cb) (hb : cb < w.heap.size) (hc : rows.length ≤ cap)
      (hr : ∀ (row : List AV), row ∈ rows → row.length = sz) (hfl : flatRows rows)
      (hv : ∀ (i : Nat) (row : List AV) (j : Nat) (a : AV), rows[i]? = some row → row[j]? = some a → w.cell? ⟨cb, co + (i * sz + j), none⟩ = some (val i j) ∧ (val i j).oneCell' = true)
      (h : ∀ (i : Nat) (row : List AV) (j : Nat) (a : AV), rows[i]? = some row → row[j]? = some a → RV w F A m a (val i j)) : RV w F A m (.rsl sz rows) (.slice (some ⟨cb, co, none⟩) rows.length cap)
  | rptr (sz : Nat) (rows : List (List AV)) (i0 j0 : Nat) (cb co : Nat) (val : Nat → Nat → Value) (hF : ¬ F cb) (hb : cb < w.heap.size)
      (hr : ∀ (row : List AV), row ∈ rows → row.length = sz) (hfl : flatRows rows)
      (hv : ∀ (i : Nat) (row : List AV) (j : Nat) (a : AV), rows[i]? = some row → row[j]? = some a → w.cell? ⟨cb, co + (i * sz + j), none⟩ = some (val i j) ∧ (val i j).oneCell' = true)
      (h : ∀ (i : Nat) (row : List AV) (j : Nat) (a : AV), rows[i]? = some row → row[j]? = some a → RV w F A m a (val i j)) : RV w F A m (.rptr sz rows i0 j0) (.pointer (some ⟨cb, co + (i0 * sz + j0), none⟩))
  | clo (f : FuncId) (first caps : List AV) (vs us : Array Value) (hl : first.length = vs.size) (hl' : caps.length = us.size)
      (h : ∀ (i : Nat) (a : AV) (v : Value), first[i]? = some a → vs[i]? = some v → RV w F A m a v)
      (h' : ∀ (i : Nat) (a : AV) (v : Value), caps[i]? = some a → us[i]? = some v → RV w F A m a v) : RV w F A m (.clo f first caps) (.func (.func f) vs us)

/-- A block's rows, as cells of an array bear them. -/
structure RRows (w : World) (F A : Nat → Prop) (m : Nat → Nat) (blk : Blk) (c : Array Value) : Prop where
  fits : blk.rows.length * blk.sz ≤ c.size
  wide : ∀ row, row ∈ blk.rows → row.length = blk.sz
  flat : blk.flat = true → flatRows blk.rows
  cell : ∀ (i : Nat) (row : List AV) (j : Nat) (a : AV), blk.rows[i]? = some row → row[j]? = some a → ∃ v, c[i * blk.sz + j]? = some v ∧ v.oneCell' = true ∧ RV w F A m a v

structure Inv (w : World) (F A : Nat → Prop) (m : Nat → Nat) (H : AHeap) : Prop where
  own : ∀ b blk, H.get b = some blk → A b ∧ F (m b)
  blk : ∀ b blk, H.get b = some blk → ∃ c, w.heap[m b]? = some (.cells c blk.e (0, 0)) ∧ RRows w F A m blk c
  inj : ∀ b b' x y, H.get b = some x → H.get b' = some y → m b = m b' → b = b'
  bound : ∀ cb, F cb → cb < w.heap.size

/-- What a step may do to a world. -/
structure Evo (w : World) (F A : Nat → Prop) (m : Nat → Nat) (H : AHeap) (w' : World) (F' A' : Nat → Prop) (m' : Nat → Nat) (H' : AHeap) : Prop where
  os : w'.os = w.os
  tape : w'.tape = w.tape
  output : w'.output = w.output
  size : w.heap.size ≤ w'.heap.size
  shape : ∀ cb, cb < w.heap.size → w'.shape? cb = w.shape? cb
  same : ∀ cb, cb < w.heap.size → (∀ b blk, H.get b = some blk → m b ≠ cb) → w'.heap[cb]? = w.heap[cb]?
  forb : ∀ cb, F' cb → F cb ∨ w.heap.size ≤ cb
  keep : ∀ cb, cb < w.heap.size → F cb → (∀ b blk, H.get b = some blk → m b ≠ cb) → F' cb
  ext : ∀ b, A b → A' b ∧ m' b = m b
  owns : ∀ b blk, H'.get b = some blk → (∃ b0 x, H.get b0 = some x ∧ m b0 = m' b) ∨ w.heap.size ≤ m' b

theorem cell?_of_heap {w w' : World} {cb : Nat} (h : w'.heap[cb]? = w.heap[cb]?) (o : Nat) : w'.cell? ⟨cb, o, none⟩ = w.cell? ⟨cb, o, none⟩ := by
  simp [World.cell?, h]

theorem shape?_of_heap {w w' : World} {cb : Nat} (h : w'.heap[cb]? = w.heap[cb]?) : w'.shape? cb = w.shape? cb := by
  simp [World.shape?, h]

theorem lt_of_shape {w : World} {cb : Nat} {x : TypeId × Nat} (h : w.shape? cb = some x) : cb < w.heap.size := by
  unfold World.shape? at h
  split at h
  · rename_i hh; exact (Array.getElem?_eq_some_iff.1 hh).1
  · cases h

theorem shape_of_cells {w : World} {cb : Nat} {c : Array Value} {e : TypeId} {f : Nat × Nat} (h : w.heap[cb]? = some (.cells c e f)) : w.shape? cb = some (e, c.size) := by
  simp [World.shape?, h]

theorem RV.mono {w w' : World} {F F' A A' : Nat → Prop} {m m' : Nat → Nat} {a : AV} {v : Value} (h : RV w F A m a v)
    (hsz : w.heap.size ≤ w'.heap.size) (hsh : ∀ cb, cb < w.heap.size → w'.shape? cb = w.shape? cb)
    (hc : ∀ cb, cb < w.heap.size → ¬ F cb → w'.heap[cb]? = w.heap[cb]?)
    (hF : ∀ cb, cb < w.heap.size → F' cb → F cb) (hA : ∀ b, A b → A' b ∧ m' b = m b) : RV w' F' A' m' a v := by
  induction h with
  | undef v => exact .undef v
  | int k n => exact .int k n
  | bool b => exact .bool b
  | str s => exact .str s
  | agg cs vs hl _ ih => exact .agg cs vs hl ih
  | tup cs vs hl _ ih => exact .tup cs vs hl ih
  | nilp => exact .nilp
  | nils => exact .nils
  | nilf => exact .nilf
  | ptr b sz i j ha => rw [← (hA b ha).2]; exact .ptr b sz i j (hA b ha).1
  | sl b sz off len cap e ha hcap hm hs =>
    have hlt := lt_of_shape hs
    rw [← (hA b ha).2]
    refine .sl b sz off len cap e (hA b ha).1 hcap hm ?_
    rw [(hA b ha).2, hsh _ hlt]; exact hs
  | esl sz a cap => exact .esl sz a cap
  | rsl0 sz a cap h0 => exact .rsl0 sz a cap h0
  | rsl sz rows cb co cap val hf hb hcap hr hfl hv _ ih =>
    refine .rsl sz rows cb co cap val (fun h => hf (hF cb hb h)) (Nat.lt_of_lt_of_le hb hsz) hcap hr hfl ?_ ih
    intro i row j a h1 h2
    rw [cell?_of_heap (hc cb hb hf)]; exact hv i row j a h1 h2
  | rptr sz rows i0 j0 cb co val hf hb hr hfl hv _ ih =>
    refine .rptr sz rows i0 j0 cb co val (fun h => hf (hF cb hb h)) (Nat.lt_of_lt_of_le hb hsz) hr hfl ?_ ih
    intro i row j a h1 h2
    rw [cell?_of_heap (hc cb hb hf)]; exact hv i row j a h1 h2
  | clo f first caps vs us hl hl' _ _ ih ih' => exact .clo f first caps vs us hl hl' ih ih'

/-- Values outlive a step. -/
theorem Evo.rv {w w' : World} {F F' A A' : Nat → Prop} {m m' : Nat → Nat} {H H' : AHeap} (E : Evo w F A m H w' F' A' m' H') (I : Inv w F A m H)
    {a : AV} {v : Value} (h : RV w F A m a v) : RV w' F' A' m' a v :=
  h.mono E.size E.shape (fun cb hcb hF => E.same cb hcb fun b blk hb he => hF (he ▸ (I.own b blk hb).2))
    (fun cb hcb hF => (E.forb cb hF).resolve_right (by omega)) E.ext

theorem Evo.refl {w : World} {F A : Nat → Prop} {m : Nat → Nat} {H : AHeap} : Evo w F A m H w F A m H where
  os := rfl
  tape := rfl
  output := rfl
  size := Nat.le_refl _
  shape := fun _ _ => rfl
  same := fun _ _ _ => rfl
  forb := fun _ h => .inl h
  keep := fun _ _ h _ => h
  ext := fun _ h => ⟨h, rfl⟩
  owns := fun b blk h => .inl ⟨b, blk, h, rfl⟩

theorem Evo.trans {w w' w'' : World} {F F' F'' A A' A'' : Nat → Prop} {m m' m'' : Nat → Nat} {H H' H'' : AHeap}
    (E : Evo w F A m H w' F' A' m' H') (E' : Evo w' F' A' m' H' w'' F'' A'' m'' H'') : Evo w F A m H w'' F'' A'' m'' H'' where
  os := E'.os.trans E.os
  tape := E'.tape.trans E.tape
  output := E'.output.trans E.output
  size := Nat.le_trans E.size E'.size
  shape := fun cb h => (E'.shape cb (Nat.lt_of_lt_of_le h E.size)).trans (E.shape cb h)
  same := fun cb h hn => by
    rw [E'.same cb (Nat.lt_of_lt_of_le h E.size) ?_, E.same cb h hn]
    intro b blk hb he
    rcases E.owns b blk hb with ⟨b0, x, h0, h1⟩ | h1
    · exact hn b0 x h0 (h1.trans he)
    · omega
  forb := fun cb h => by
    rcases E'.forb cb h with h | h
    · exact E.forb cb h
    · have := E.size; exact .inr (by omega)
  keep := fun cb hcb hF hn => E'.keep cb (Nat.lt_of_lt_of_le hcb E.size) (E.keep cb hcb hF hn) fun b blk hb he => by
    rcases E.owns b blk hb with ⟨b0, x, h0, h1⟩ | h1
    · exact hn b0 x h0 (h1.trans he)
    · omega
  ext := fun b h => ⟨(E'.ext b (E.ext b h).1).1, (E'.ext b (E.ext b h).1).2.trans (E.ext b h).2⟩
  owns := fun b blk h => by
    rcases E'.owns b blk h with ⟨b0, x, h0, h1⟩ | h1
    · rcases E.owns b0 x h0 with ⟨b1, y, h2, h3⟩ | h3
      · exact .inl ⟨b1, y, h2, h3.trans h1⟩
      · exact .inr (h1 ▸ h3)
    · have := E.size; exact .inr (by omega)

/-- The cells of a list of values. -/
theorem RV.getElem {w : World} {F A : Nat → Prop} {m : Nat → Nat} {cs : List AV} {vs : Array Value} (hl : cs.length = vs.size)
    (h : ∀ (i : Nat) (a : AV) (v : Value), cs[i]? = some a → vs[i]? = some v → RV w F A m a v) {i : Nat} {a : AV} (ha : cs[i]? = some a) : ∃ v, vs[i]? = some v ∧ RV w F A m a v := by
  have hi : i < vs.size := by rw [← hl]; exact (List.getElem?_eq_some_iff.1 ha).1
  exact ⟨vs[i], by simp [hi], h i a _ ha (by simp [hi])⟩

/-- A drawn number turns nothing. -/
theorem RV.drew {w : World} {F A : Nat → Prop} {m : Nat → Nat} {a : AV} {v : Value} {n : Nat} (h : RV w F A m a v) : RV { w with drawn := n } F A m a v :=
  h.mono (Nat.le_refl _) (fun _ _ => rfl) (fun _ _ _ => rfl) (fun _ _ h => h) (fun _ h => ⟨h, rfl⟩)

theorem Inv.drew {w : World} {F A : Nat → Prop} {m : Nat → Nat} {H : AHeap} {n : Nat} (I : Inv w F A m H) : Inv { w with drawn := n } F A m H where
  own := I.own
  inj := I.inj
  bound := I.bound
  blk := fun b blk hb => by
    obtain ⟨c, hc, hr⟩ := I.blk b blk hb
    exact ⟨c, hc, hr.fits, hr.wide, hr.flat, fun i row j a h1 h2 => let ⟨v, hv, ho, hx⟩ := hr.cell i row j a h1 h2; ⟨v, hv, ho, hx.drew⟩⟩

theorem Evo.drew {w : World} {F A : Nat → Prop} {m : Nat → Nat} {H : AHeap} {n : Nat} : Evo w F A m H { w with drawn := n } F A m H where
  os := rfl
  tape := rfl
  output := rfl
  size := Nat.le_refl _
  shape := fun _ _ => rfl
  same := fun _ _ _ => rfl
  forb := fun _ h => .inl h
  keep := fun _ _ h _ => h
  ext := fun _ h => ⟨h, rfl⟩
  owns := fun b blk h => .inl ⟨b, blk, h, rfl⟩
end Go.Abs
