import Derived.Orders
import Derived.Below
import Derived.Laws.AppendOwn
import Derived.Laws.OwnMore
import Derived.Laws.MakeOwn
import Derived.Laws.Slices
import Derived.Laws.CopyRow
import Derived.Laws.Concat
import Derived.Laws.Small
import Derived.Laws.Pointers
import Derived.Laws.StructEq
import Derived.ChangeKeysEq
import Derived.Laws.Cover3
import Derived.RangeFuncCalls
import Derived.RangeFuncLeaves
import Derived.LoopNIn
section
set_option linter.unusedSimpArgs false
set_option linter.unusedVariables false
namespace Go.Abs
inductive AV where
  | undef
  | int (k : IntKind) (n : Int)
  | bool (b : Bool)
  | str (s : ByteArray)
  | agg (cs : List AV)
  | tup (vs : List AV)
  | nilp
  | nils
  | nilf
  | ptr (b sz i j : Nat)
  | rptr (sz : Nat) (rows : List (List AV)) (i j : Nat)
  | sl (b sz off len : Nat)
  | rsl (sz : Nat) (rows : List (List AV))
  | esl (sz : Nat)
  | clo (f : FuncId) (first caps : List AV)
  | mp (k : Nat)
  | gho (k : Nat) (rows : List (List AV))
instance : Inhabited AV := ⟨.undef⟩
def AV.flat : AV → Bool
  | .int .. | .bool _ | .str _ | .nilp | .nils | .nilf | .rsl .. | .esl _ => true
  | _ => false
def flatRows (rows : List (List AV)) : Prop := ∀ row, row ∈ rows → ∀ a, a ∈ row → a.flat = true
structure Blk where
  e : TypeId
  sz : Nat
  flat : Bool
  rows : List (List AV)
structure AHeap where
  next : Nat
  get : Nat → Option Blk
abbrev AFr := Nat → AV
def AFr.upd (fr : AFr) (d : Nat) (v : AV) : AFr := fun j => if j = d then v else fr j
theorem AFr.upd_eq (fr : AFr) (d : Nat) (v : AV) : fr.upd d v d = v := by simp [AFr.upd]
theorem AFr.upd_ne (fr : AFr) (d j : Nat) (v : AV) (h : j ≠ d) : fr.upd d v j = fr j := by simp [AFr.upd, h]
def AFr.put (fr : AFr) : Option Nat → AV → AFr
  | some d, v => fr.upd d v
  | none, _ => fr
def AHeap.set (H : AHeap) (b : Nat) (x : Option Blk) : AHeap := { next := H.next, get := fun j => if j = b then x else H.get j }
def AHeap.push (H : AHeap) (x : Blk) : AHeap := { next := H.next + 1, get := fun j => if j = H.next then some x else H.get j }
def AHeap.empty : AHeap := { next := 0, get := fun _ => none }
theorem AHeap.get_set (H : AHeap) (b j : Nat) (x : Option Blk) : (H.set b x).get j = if j = b then x else H.get j := rfl
theorem AHeap.get_push (H : AHeap) (j : Nat) (x : Blk) : (H.push x).get j = if j = H.next then some x else H.get j := rfl
theorem AHeap.next_set (H : AHeap) (b : Nat) (x : Option Blk) : (H.set b x).next = H.next := rfl
theorem AHeap.next_push (H : AHeap) (x : Blk) : (H.push x).next = H.next + 1 := rfl
inductive RV (w : World) (F A : Nat → Prop) (m : Nat → Nat) : AV → Value → Prop
  | undef (v : Value) : RV w F A m .undef v
  | int (k : IntKind) (n : Int) : RV w F A m (.int k n) (.int k n)
  | bool (b : Bool) : RV w F A m (.bool b) (.bool b)
  | str (s : ByteArray) : RV w F A m (.str s) (.string s)
  | agg (cs : List AV) (vs : Array Value) (hl : cs.length = vs.size) (h : ∀ (i : Nat) (a : AV) (v : Value), cs[i]? = some a → vs[i]? = some v → RV w F A m a v) : RV w F A m (.agg cs) (.agg vs)
  | tup (cs : List AV) (vs : Array Value) (hl : cs.length = vs.size) (h : ∀ (i : Nat) (a : AV) (v : Value), cs[i]? = some a → vs[i]? = some v → RV w F A m a v) : RV w F A m (.tup cs) (.tuple vs)
  | nilp : RV w F A m .nilp (.pointer none)
  | nils : RV w F A m .nils (.slice none 0 0)
  | nilf : RV w F A m .nilf .nilFunc
  | ptr (b sz i j : Nat) (hA : A b) : RV w F A m (.ptr b sz i j) (.pointer (some ⟨m b, i * sz + j, none⟩))
  | sl (b sz off len cap : Nat) (e : TypeId) (hA : A b) (hc : len ≤ cap) (hm : cap ≤ maxLen) (hs : w.shape? (m b) = some (e, (off + cap) * sz)) :
      RV w F A m (.sl b sz off len) (.slice (some ⟨m b, off * sz, none⟩) len cap)
  | esl (sz : Nat) (a : Addr) (cap : Nat) : RV w F A m (.esl sz) (.slice (some a) 0 cap)
  | rsl0 (sz : Nat) (a : Option Addr) (cap : Nat) (h0 : a = none → cap = 0) : RV w F A m (.rsl sz []) (.slice a 0 cap)
  | rsl (sz : Nat) (rows : List (List AV)) (cb co cap : Nat) (val : Nat → Nat → Value) (hF : ¬ F cb) (hb : cb < w.heap.size) (hc : rows.length ≤ cap)
      (hr : ∀ (row : List AV), row ∈ rows → row.length = sz) (hfl : flatRows rows)
      (hv : ∀ (i : Nat) (row : List AV) (j : Nat) (a : AV), rows[i]? = some row → row[j]? = some a → w.cell? ⟨cb, co + (i * sz + j), none⟩ = some (val i j) ∧ (val i j).oneCell' = true)
      (h : ∀ (i : Nat) (row : List AV) (j : Nat) (a : AV), rows[i]? = some row → row[j]? = some a → RV w F A m a (val i j)) : RV w F A m (.rsl sz rows) (.slice (some ⟨cb, co, none⟩) rows.length cap)
  | rptr (sz : Nat) (rows : List (List AV)) (i0 j0 : Nat) (cb co : Nat) (val : Nat → Nat → Value) (hF : ¬ F cb) (hb : cb < w.heap.size)
      (hr : ∀ (row : List AV), row ∈ rows → row.length = sz) (hfl : flatRows rows)
      (hv : ∀ (i : Nat) (row : List AV) (j : Nat) (a : AV), rows[i]? = some row → row[j]? = some a → w.cell? ⟨cb, co + (i * sz + j), none⟩ = some (val i j) ∧ (val i j).oneCell' = true)
      (h : ∀ (i : Nat) (row : List AV) (j : Nat) (a : AV), rows[i]? = some row → row[j]? = some a → RV w F A m a (val i j)) : RV w F A m (.rptr sz rows i0 j0) (.pointer (some ⟨cb, co + (i0 * sz + j0), none⟩))
  | clo (f : FuncId) (first caps : List AV) (vs us : Array Value) (hl : first.length = vs.size) (hl' : caps.length = us.size)
      (h : ∀ (i : Nat) (a : AV) (v : Value), first[i]? = some a → vs[i]? = some v → RV w F A m a v)
      (h' : ∀ (i : Nat) (a : AV) (v : Value), caps[i]? = some a → us[i]? = some v → RV w F A m a v) : RV w F A m (.clo f first caps) (.func (.func f) vs us)
  | mp (k : Nat) (hA : A k) : RV w F A m (.mp k) (.map (some (m k)))
  | gho (k : Nat) (rows : List (List AV)) (v : Value) : RV w F A m (.gho k rows) v
structure RRows (w : World) (F A : Nat → Prop) (m : Nat → Nat) (blk : Blk) (c : Array Value) : Prop where
  fits : blk.rows.length * blk.sz ≤ c.size
  wide : ∀ row, row ∈ blk.rows → row.length = blk.sz
  flat : blk.flat = true → flatRows blk.rows
  cell : ∀ (i : Nat) (row : List AV) (j : Nat) (a : AV), blk.rows[i]? = some row → row[j]? = some a → ∃ v, c[i * blk.sz + j]? = some v ∧ v.oneCell' = true ∧ RV w F A m a v
structure Inv (w : World) (F A : Nat → Prop) (m : Nat → Nat) (H : AHeap) : Prop where
  own : ∀ b blk, H.get b = some blk → A b ∧ F (m b)
  blk : ∀ b blk, H.get b = some blk → ∃ c, w.heap[m b]? = some (.cells c blk.e (0, 0)) ∧ RRows w F A m blk c
  inj : ∀ b b' x y, H.get b = some x → H.get b' = some y → m b = m b' → b = b'
  bound : ∀ cb, F cb → cb < w.heap.size
structure Evo (w : World) (F A : Nat → Prop) (m : Nat → Nat) (H : AHeap) (w' : World) (F' A' : Nat → Prop) (m' : Nat → Nat) (H' : AHeap) : Prop where
  os : w'.os = w.os
  tape : w'.tape = w.tape
  output : w'.output = w.output
  size : w.heap.size ≤ w'.heap.size
  shape : ∀ cb, cb < w.heap.size → w'.shape? cb = w.shape? cb
  same : ∀ cb, cb < w.heap.size → (∀ b blk, H.get b = some blk → m b ≠ cb) → w'.heap[cb]? = w.heap[cb]?
  forb : ∀ cb, F' cb → F cb ∨ w.heap.size ≤ cb
  keep : ∀ cb, cb < w.heap.size → F cb → (∀ b blk, H.get b = some blk → m b ≠ cb) → F' cb
  ext : ∀ b, A b → A' b ∧ m' b = m b
  owns : ∀ b blk, H'.get b = some blk → (∃ b0 x, H.get b0 = some x ∧ m b0 = m' b) ∨ w.heap.size ≤ m' b
theorem cell?_of_heap {w w' : World} {cb : Nat} (h : w'.heap[cb]? = w.heap[cb]?) (o : Nat) : w'.cell? ⟨cb, o, none⟩ = w.cell? ⟨cb, o, none⟩ := by
  simp [World.cell?, h]
theorem shape?_of_heap {w w' : World} {cb : Nat} (h : w'.heap[cb]? = w.heap[cb]?) : w'.shape? cb = w.shape? cb := by
  simp [World.shape?, h]
theorem lt_of_shape {w : World} {cb : Nat} {x : TypeId × Nat} (h : w.shape? cb = some x) : cb < w.heap.size := by
  unfold World.shape? at h
  split at h
  · rename_i hh; exact (Array.getElem?_eq_some_iff.1 hh).1
  · cases h
theorem shape_of_cells {w : World} {cb : Nat} {c : Array Value} {e : TypeId} {f : Nat × Nat} (h : w.heap[cb]? = some (.cells c e f)) : w.shape? cb = some (e, c.size) := by
  simp [World.shape?, h]
theorem RV.mono {w w' : World} {F F' A A' : Nat → Prop} {m m' : Nat → Nat} {a : AV} {v : Value} (h : RV w F A m a v)
    (hsz : w.heap.size ≤ w'.heap.size) (hsh : ∀ cb, cb < w.heap.size → w'.shape? cb = w.shape? cb)
    (hc : ∀ cb, cb < w.heap.size → ¬ F cb → w'.heap[cb]? = w.heap[cb]?)
    (hF : ∀ cb, cb < w.heap.size → F' cb → F cb) (hA : ∀ b, A b → A' b ∧ m' b = m b) : RV w' F' A' m' a v := by
  induction h with
  | undef v => exact .undef v
  | int k n => exact .int k n
  | bool b => exact .bool b
  | str s => exact .str s
  | agg cs vs hl _ ih => exact .agg cs vs hl ih
  | tup cs vs hl _ ih => exact .tup cs vs hl ih
  | nilp => exact .nilp
  | nils => exact .nils
  | nilf => exact .nilf
  | ptr b sz i j ha => rw [← (hA b ha).2]; exact .ptr b sz i j (hA b ha).1
  | sl b sz off len cap e ha hcap hm hs =>
    have hlt := lt_of_shape hs
    rw [← (hA b ha).2]
    refine .sl b sz off len cap e (hA b ha).1 hcap hm ?_
    rw [(hA b ha).2, hsh _ hlt]; exact hs
  | esl sz a cap => exact .esl sz a cap
  | rsl0 sz a cap h0 => exact .rsl0 sz a cap h0
  | rsl sz rows cb co cap val hf hb hcap hr hfl hv _ ih =>
    refine .rsl sz rows cb co cap val (fun h => hf (hF cb hb h)) (Nat.lt_of_lt_of_le hb hsz) hcap hr hfl ?_ ih
    intro i row j a h1 h2
    rw [cell?_of_heap (hc cb hb hf)]; exact hv i row j a h1 h2
  | rptr sz rows i0 j0 cb co val hf hb hr hfl hv _ ih =>
    refine .rptr sz rows i0 j0 cb co val (fun h => hf (hF cb hb h)) (Nat.lt_of_lt_of_le hb hsz) hr hfl ?_ ih
    intro i row j a h1 h2
    rw [cell?_of_heap (hc cb hb hf)]; exact hv i row j a h1 h2
  | clo f first caps vs us hl hl' _ _ ih ih' => exact .clo f first caps vs us hl hl' ih ih'
  | mp k ha => rw [← (hA k ha).2]; exact .mp k (hA k ha).1
  | gho k rows v => exact .gho k rows v
theorem Evo.rv {w w' : World} {F F' A A' : Nat → Prop} {m m' : Nat → Nat} {H H' : AHeap} (E : Evo w F A m H w' F' A' m' H') (I : Inv w F A m H)
    {a : AV} {v : Value} (h : RV w F A m a v) : RV w' F' A' m' a v :=
  h.mono E.size E.shape (fun cb hcb hF => E.same cb hcb fun b blk hb he => hF (he ▸ (I.own b blk hb).2))
    (fun cb hcb hF => (E.forb cb hF).resolve_right (by omega)) E.ext
theorem Evo.refl {w : World} {F A : Nat → Prop} {m : Nat → Nat} {H : AHeap} : Evo w F A m H w F A m H where
  os := rfl
  tape := rfl
  output := rfl
  size := Nat.le_refl _
  shape := fun _ _ => rfl
  same := fun _ _ _ => rfl
  forb := fun _ h => .inl h
  keep := fun _ _ h _ => h
  ext := fun _ h => ⟨h, rfl⟩
  owns := fun b blk h => .inl ⟨b, blk, h, rfl⟩
theorem Evo.trans {w w' w'' : World} {F F' F'' A A' A'' : Nat → Prop} {m m' m'' : Nat → Nat} {H H' H'' : AHeap}
    (E : Evo w F A m H w' F' A' m' H') (E' : Evo w' F' A' m' H' w'' F'' A'' m'' H'') : Evo w F A m H w'' F'' A'' m'' H'' where
  os := E'.os.trans E.os
  tape := E'.tape.trans E.tape
  output := E'.output.trans E.output
  size := Nat.le_trans E.size E'.size
  shape := fun cb h => (E'.shape cb (Nat.lt_of_lt_of_le h E.size)).trans (E.shape cb h)
  same := fun cb h hn => by
    rw [E'.same cb (Nat.lt_of_lt_of_le h E.size) ?_, E.same cb h hn]
    intro b blk hb he
    rcases E.owns b blk hb with ⟨b0, x, h0, h1⟩ | h1
    · exact hn b0 x h0 (h1.trans he)
    · omega
  forb := fun cb h => by
    rcases E'.forb cb h with h | h
    · exact E.forb cb h
    · have := E.size; exact .inr (by omega)
  keep := fun cb hcb hF hn => E'.keep cb (Nat.lt_of_lt_of_le hcb E.size) (E.keep cb hcb hF hn) fun b blk hb he => by
    rcases E.owns b blk hb with ⟨b0, x, h0, h1⟩ | h1
    · exact hn b0 x h0 (h1.trans he)
    · omega
  ext := fun b h => ⟨(E'.ext b (E.ext b h).1).1, (E'.ext b (E.ext b h).1).2.trans (E.ext b h).2⟩
  owns := fun b blk h => by
    rcases E'.owns b blk h with ⟨b0, x, h0, h1⟩ | h1
    · rcases E.owns b0 x h0 with ⟨b1, y, h2, h3⟩ | h3
      · exact .inl ⟨b1, y, h2, h3.trans h1⟩
      · exact .inr (h1 ▸ h3)
    · have := E.size; exact .inr (by omega)
theorem RV.getElem {w : World} {F A : Nat → Prop} {m : Nat → Nat} {cs : List AV} {vs : Array Value} (hl : cs.length = vs.size)
    (h : ∀ (i : Nat) (a : AV) (v : Value), cs[i]? = some a → vs[i]? = some v → RV w F A m a v) {i : Nat} {a : AV} (ha : cs[i]? = some a) : ∃ v, vs[i]? = some v ∧ RV w F A m a v := by
  have hi : i < vs.size := by rw [← hl]; exact (List.getElem?_eq_some_iff.1 ha).1
  exact ⟨vs[i], by simp [hi], h i a _ ha (by simp [hi])⟩
theorem RV.drew {w : World} {F A : Nat → Prop} {m : Nat → Nat} {a : AV} {v : Value} {n : Nat} (h : RV w F A m a v) : RV { w with drawn := n } F A m a v :=
  h.mono (Nat.le_refl _) (fun _ _ => rfl) (fun _ _ _ => rfl) (fun _ _ h => h) (fun _ h => ⟨h, rfl⟩)
theorem Inv.drew {w : World} {F A : Nat → Prop} {m : Nat → Nat} {H : AHeap} {n : Nat} (I : Inv w F A m H) : Inv { w with drawn := n } F A m H where
  own := I.own
  inj := I.inj
  bound := I.bound
  blk := fun b blk hb => by
    obtain ⟨c, hc, hr⟩ := I.blk b blk hb
    exact ⟨c, hc, hr.fits, hr.wide, hr.flat, fun i row j a h1 h2 => let ⟨v, hv, ho, hx⟩ := hr.cell i row j a h1 h2; ⟨v, hv, ho, hx.drew⟩⟩
theorem Evo.drew {w : World} {F A : Nat → Prop} {m : Nat → Nat} {H : AHeap} {n : Nat} : Evo w F A m H { w with drawn := n } F A m H where
  os := rfl
  tape := rfl
  output := rfl
  size := Nat.le_refl _
  shape := fun _ _ => rfl
  same := fun _ _ _ => rfl
  forb := fun _ h => .inl h
  keep := fun _ _ h _ => h
  ext := fun _ h => ⟨h, rfl⟩
  owns := fun b blk h => .inl ⟨b, blk, h, rfl⟩
end Go.Abs
end
section
set_option linter.unusedSimpArgs false
set_option linter.unusedVariables false
namespace Go.Abs
def ofCell : Value → AV
  | .int k n => .int k n
  | .bool b => .bool b
  | .string s => .str s
  | .pointer none => .nilp
  | .slice none 0 0 => .nils
  | .nilFunc => .nilf
  | _ => .undef
def ofConst : Value → AV
  | .agg cs => .agg (cs.toList.map ofCell)
  | v => ofCell v
def AFr.eval (fr : AFr) : Operand → AV
  | .tmp t => fr t
  | .const v => ofConst v
  | .global _ => .undef
  | .func f => .clo f [] []
def szOf (P : Program) (t : TypeId) : Option Nat := (P.info? t).map (·.size)
def aggT (P : Program) (t : TypeId) : Option Bool :=
  match P.underlying t with
  | some (.struct _) | some (.array _ _) => some true
  | some _ => some false
  | none => none
def rdOf (P : Program) (t : TypeId) : Option (Option Nat) :=
  match aggT P t, szOf P t with
  | some true, some n => some (some n)
  | some false, some _ => some none
  | _, _ => none
def apartR (r : Option (Option Nat)) (cs : List AV) (off : Nat) : Option AV :=
  match r with
  | some (some n) => some (.agg ((cs.drop off).take n))
  | some none => cs[off]?
  | none => none
def apart (P : Program) (t : TypeId) (cs : List AV) (off : Nat) : Option AV := apartR (rdOf P t) cs off
theorem apart_old (P : Program) (t : TypeId) (cs : List AV) (off : Nat) : apart P t cs off =
    match aggT P t, szOf P t with
    | some true, some n => some (.agg ((cs.drop off).take n))
    | some false, some _ => cs[off]?
    | _, _ => none := by
  unfold apart rdOf
  cases aggT P t with
  | none => cases szOf P t <;> rfl
  | some b => cases b <;> cases szOf P t <;> rfl
def aarith (op : BinOp) (k : IntKind) (a b : Int) : Option AV :=
  match op with
  | .add => some (.int k (k.wrap (a + b)))
  | .sub => some (.int k (k.wrap (a - b)))
  | .mul => some (.int k (k.wrap (a * b)))
  | .quo => if b = 0 then none else some (.int k (k.wrap (a.tdiv b)))
  | .rem => if b = 0 then none else some (.int k (a.tmod b))
  | .and => some (.int k (k.wrap (BitVec.ofInt k.bits a &&& BitVec.ofInt k.bits b).toNat))
  | .or => some (.int k (k.wrap (BitVec.ofInt k.bits a ||| BitVec.ofInt k.bits b).toNat))
  | .xor => some (.int k (k.wrap (BitVec.ofInt k.bits a ^^^ BitVec.ofInt k.bits b).toNat))
  | .andNot => some (.int k (k.wrap (BitVec.ofInt k.bits a &&& ~~~ BitVec.ofInt k.bits b).toNat))
  | .eql => some (.bool (a == b))
  | .neq => some (.bool (a != b))
  | .lss => some (.bool (a < b))
  | .leq => some (.bool (a ≤ b))
  | .gtr => some (.bool (a > b))
  | .geq => some (.bool (a ≥ b))
  | .shl | .shr => none
def ashift (op : BinOp) (k : IntKind) (a b : Int) : Option AV :=
  if b < 0 then none else
  match op with
  | .shl => some (.int k (k.wrap (a * 2 ^ (min b.toNat k.bits))))
  | .shr => some (.int k (a.fdiv (2 ^ (min b.toNat k.bits))))
  | _ => none
def isShift : BinOp → Bool
  | .shl | .shr => true
  | _ => false
inductive CK where
  | i | b | t
  deriving DecidableEq
inductive QK where
  | b | p | s | t | x
  | c (l : List CK)
def ceq : CK → AV → AV → Option Bool
  | .i, .int k a, .int k' b => if k = k' then some (a == b) else none
  | .b, .bool a, .bool b => some (a == b)
  | .t, .str a, .str b => some (a == b)
  | _, _, _ => none
def ceqs : List CK → List AV → List AV → Option Bool
  | k :: ks, a :: as, b :: bs => match ceq k a b, ceqs ks as bs with
    | some x, some y => some (x && y)
    | _, _ => none
  | [], [], [] => some true
  | _, _, _ => none
def repK (l : List CK) : Nat → List CK
  | 0 => []
  | n + 1 => l ++ repK l n
mutual
def eqK (P : Program) : Nat → TypeId → Option (List CK)
  | 0, _ => none
  | d + 1, t =>
    match P.underlying t with
    | some (.int _) => some [.i]
    | some .bool => some [.b]
    | some .string => some [.t]
    | some (.struct fs) => if P.stoodInHeld t = false then eqKs P d 0 fs.toList else none
    | some (.array n e) => match eqK P d e, P.info? e with | some l, some i => if l.length = i.size then some (repK l n) else none | _, _ => none
    | _ => none
def eqKs (P : Program) : Nat → Nat → List Field → Option (List CK)
  | _, _, [] => some []
  | 0, _, _ :: _ => none
  | d + 1, off, f :: fs =>
    match P.info? f.type, eqK P d f.type, eqKs P d (off + ((P.info? f.type).map (·.size)).getD 0) fs with
    | some i, some l, some ls => if f.name ≠ "_" ∧ f.offset = off ∧ l.length = i.size then some (l ++ ls) else none
    | _, _, _ => none
end
def qkOf (P : Program) (t : TypeId) : QK :=
  match P.underlying t with
  | some .bool => .b
  | some (.pointer _) => .p
  | some (.slice _) => .s
  | some .string => .t
  | some (.struct _) | some (.array _ _) => if P.eqGuardType P.depth t = false then (match eqK P 64 t with | some l => .c l | none => .x) else .x
  | _ => .x
def eqRes (op : BinOp) (r : Bool) : Option AV := match op with | .eql => some (.bool r) | .neq => some (.bool !r) | _ => none
def strRes (op : BinOp) (a b : ByteArray) : Option AV := match op with
  | .add => if a.size + b.size ≤ 4611686018427387904 then some (.str (a ++ b)) else none
  | op => eqRes op (a == b)
def abinR (q : QK) (op : BinOp) (x y : AV) : Option AV :=
  match x, y with
  | .int k a, .int k' b => if isShift op then ashift op k a b else if k = k' then aarith op k a b else none
  | .bool a, .bool b => match q with | .b => eqRes op (a == b) | _ => none
  | .str a, .str b => match q with | .t => strRes op a b | _ => none
  | .ptr .., .nilp | .rptr .., .nilp => match q with | .p => eqRes op false | _ => none
  | .nilp, .nilp => match q with | .p => eqRes op true | _ => none
  | .sl .., .nils | .esl _, .nils | .rsl _ (_ :: _), .nils => match q with | .s => eqRes op false | _ => none
  | .nils, .nils => match q with | .s => eqRes op true | _ => none
  | .agg cs, .agg ds => match q with | .c l => (match ceqs l cs ds with | some r => eqRes op r | none => none) | _ => none
  | _, _ => none
def abin (P : Program) (op : BinOp) (t : TypeId) (x y : AV) : Option AV := abinR (qkOf P t) op x y
def aun (op : UnOp) (x : AV) : Option AV :=
  match op, x with
  | .neg, .int k n => aarith .sub k 0 n
  | .xor, .int k n => aarith .xor k (if k.signed then -1 else k.max) n
  | .not, .bool b => some (.bool !b)
  | _, _ => none
def convK (P : Program) (s d : TypeId) : Option IntKind :=
  match P.underlying s, P.underlying d with
  | some _, some (.int k) => some k
  | _, _ => none
def aconvR (k : Option IntKind) (x : AV) : Option AV :=
  match k, x with
  | some k, .int _ n => some (.int k (k.wrap n))
  | _, _ => none
def aconv (P : Program) (s d : TypeId) (x : AV) : Option AV := aconvR (convK P s d) x
theorem aconv_old (P : Program) (s d : TypeId) (x : AV) : aconv P s d x =
    match P.underlying s, P.underlying d, x with
    | some _, some (.int k), .int _ n => some (.int k (k.wrap n))
    | _, _, _ => none := by
  unfold aconv convK
  cases P.underlying s with
  | none => cases P.underlying d <;> rfl
  | some _ =>
    cases P.underlying d with
    | none => rfl
    | some e => cases e <;> cases x <;> rfl
def abound (x : Option AV) (dflt most : Nat) : Option Nat :=
  match x with
  | none => some dflt
  | some (.int _ i) => if 0 ≤ i ∧ i ≤ most then some i.toNat else none
  | some _ => none
inductive SK where
  | no | sl (n : Nat) | str
def skOf (P : Program) (t : TypeId) : SK :=
  match P.underlying t with
  | some (.slice e) => match szOf P e with
    | some n => .sl n
    | none => .no
  | some .string => .str
  | _ => .no
def asliceR (k : SK) (x : AV) (lo hi mx : Option AV) : Option AV :=
  match k, mx with
  | .sl n, none =>
    match x with
    | .rsl sz rows =>
      match abound hi rows.length rows.length with
      | some h => match abound lo 0 h with
        | some l => if n = sz then some (.rsl sz ((rows.take h).drop l)) else none
        | none => none
      | none => none
    | .sl b sz off len =>
      match abound hi len len with
      | some h => match abound lo 0 h with
        | some l => if n = sz then (if l = 0 then some (.sl b sz off h) else if l < h then some (.sl b sz (off + l) (h - l)) else some (.rsl sz [])) else none
        | none => none
      | none => none
    | .nils =>
      match abound hi 0 0 with
      | some h => match abound lo 0 h with
        | some _ => some .nils
        | none => none
      | none => none
    | _ => none
  | .str, none =>
    match x with
    | .str s =>
      match abound hi s.size s.size with
      | some h => match abound lo 0 h with
        | some l => some (.str (s.extract l h))
        | none => none
      | none => none
    | _ => none
  | _, _ => none
def aslice (P : Program) (t : TypeId) (x : AV) (lo hi mx : Option AV) : Option AV := asliceR (skOf P t) x lo hi mx
theorem aslice_old (P : Program) (t : TypeId) (x : AV) (lo hi mx : Option AV) : aslice P t x lo hi mx =
    match P.underlying t, mx with
    | some (.slice e), none =>
      match szOf P e, x with
      | some n, .rsl sz rows =>
        match abound hi rows.length rows.length with
        | some h => match abound lo 0 h with
          | some l => if n = sz then some (.rsl sz ((rows.take h).drop l)) else none
          | none => none
        | none => none
      | some n, .sl b sz off len =>
        match abound hi len len with
        | some h => match abound lo 0 h with
          | some l => if n = sz then (if l = 0 then some (.sl b sz off h) else if l < h then some (.sl b sz (off + l) (h - l)) else some (.rsl sz [])) else none
          | none => none
        | none => none
      | some n, .nils =>
        match abound hi 0 0 with
        | some h => match abound lo 0 h with
          | some _ => some .nils
          | none => none
        | none => none
      | _, _ => none
    | some .string, none =>
      match x with
      | .str s =>
        match abound hi s.size s.size with
        | some h => match abound lo 0 h with
          | some l => some (.str (s.extract l h))
          | none => none
        | none => none
      | _ => none
    | _, _ => none := by
  unfold aslice skOf
  cases P.underlying t with
  | none => cases mx <;> rfl
  | some d => cases d <;> cases mx <;> first | rfl | (dsimp only; split <;> simp_all [asliceR] <;> cases x <;> simp_all)
def offOf (P : Program) (s : TypeId) (f : Nat) : Option Nat :=
  match P.underlying s with
  | some (.struct fields) =>
    match fields[f]? with
    | some fd =>
      match szOf P fd.type with
      | some n => if n = 0 then none else some fd.offset
      | none => none
    | none => none
  | _ => none
def afieldAddrR (o : Option Nat) (x : AV) : Option AV :=
  match o with
  | some o =>
    match x with
    | .ptr b sz i j => some (.ptr b sz i (j + o))
    | .rptr sz rows i j => some (.rptr sz rows i (j + o))
    | _ => none
  | none => none
def afieldAddr (P : Program) (s : TypeId) (x : AV) (f : Nat) : Option AV := afieldAddrR (offOf P s f) x
def fieldK (P : Program) (s : TypeId) (f : Nat) : Option (Nat × Option (Option Nat)) :=
  match P.underlying s with
  | some (.struct fields) =>
    match fields[f]? with
    | some fd => some (fd.offset, rdOf P fd.type)
    | none => none
  | _ => none
def afieldR (k : Option (Nat × Option (Option Nat))) (x : AV) : Option AV :=
  match k with
  | some (o, r) => match x with
    | .agg cs => apartR r cs o
    | _ => none
  | none => none
def afield (P : Program) (s : TypeId) (x : AV) (f : Nat) : Option AV := afieldR (fieldK P s f) x
inductive IK where
  | no | sl (n : Nat) | arr (len n : Nat)
def ikOf (P : Program) (t : TypeId) : IK :=
  match P.underlying t with
  | some (.slice e) => match szOf P e with
    | some n => .sl n
    | none => .no
  | some (.array len e) => match szOf P e with
    | some n => .arr len n
    | none => .no
  | _ => .no
def aindexAddrR (k : IK) (x ix : AV) : Option AV :=
  match ix with
  | .int _ i =>
    match k with
    | .sl n =>
      match x with
      | .rsl sz rows => if n = sz then (if 0 ≤ i ∧ i < rows.length then some (.rptr sz rows i.toNat 0) else none) else none
      | .sl b sz off len => if n = sz then (if 0 ≤ i ∧ i < len then some (.ptr b sz (off + i.toNat) 0) else none) else none
      | _ => none
    | .arr len n =>
      match x with
      | .ptr b sz r j => if 0 ≤ i ∧ i < len then some (.ptr b sz r (j + i.toNat * n)) else none
      | .rptr sz rows r j => if 0 ≤ i ∧ i < len then some (.rptr sz rows r (j + i.toNat * n)) else none
      | _ => none
    | .no => none
  | _ => none
def aindexAddr (P : Program) (t : TypeId) (x ix : AV) : Option AV := aindexAddrR (ikOf P t) x ix
inductive XK where
  | no | arr (len n : Nat) (r : Option (Option Nat)) | str
def xkOf (P : Program) (t : TypeId) : XK :=
  match P.underlying t with
  | some (.array len e) => match szOf P e with
    | some n => .arr len n (rdOf P e)
    | none => .no
  | some .string => .str
  | _ => .no
def aindexR (k : XK) (x ix : AV) : Option AV :=
  match ix with
  | .int _ i =>
    match k, x with
    | .arr len n r, .agg cs => if 0 ≤ i ∧ i < len then apartR r cs (i.toNat * n) else none
    | .str, .str s => if 0 ≤ i then (match s[i.toNat]? with | some b => some (.int .u8 b.toNat) | none => none) else none
    | _, _ => none
  | _ => none
def aindex (P : Program) (t : TypeId) (x ix : AV) : Option AV := aindexR (xkOf P t) x ix
def anil (x : AV) : Option AV :=
  match x with
  | .ptr .. | .rptr .. | .clo .. => some x
  | _ => none
def aextract (x : AV) (i : Nat) : Option AV :=
  match x with
  | .tup vs => vs[i]?
  | _ => none
inductive LK where
  | no | sl | str | arr (n : Nat)
def lkOf (P : Program) (t : TypeId) : LK :=
  match P.underlying t with
  | some (.slice _) => .sl
  | some .string => .str
  | some (.array n _) => .arr n
  | _ => .no
def alenR (k : LK) (x : AV) : Option AV :=
  match k, x with
  | .sl, .rsl _ rows => some (.int .i64 rows.length)
  | .sl, .sl _ _ _ len => some (.int .i64 len)
  | .sl, .nils => some (.int .i64 0)
  | .sl, .esl _ => some (.int .i64 0)
  | .str, .str s => some (.int .i64 s.size)
  | .arr n, _ => some (.int .i64 n)
  | _, _ => none
def alen (P : Program) (t : TypeId) (x : AV) : Option AV := alenR (lkOf P t) x
def acapR (k : LK) (x : AV) : Option AV :=
  match k, x with
  | .sl, .nils => some (.int .i64 0)
  | _, _ => none
def acap (P : Program) (t : TypeId) (x : AV) : Option AV := acapR (lkOf P t) x
theorem alen_old (P : Program) (t : TypeId) (x : AV) : alen P t x =
    match P.underlying t, x with
    | some (.slice _), .rsl _ rows => some (.int .i64 rows.length)
    | some (.slice _), .sl _ _ _ len => some (.int .i64 len)
    | some (.slice _), .nils => some (.int .i64 0)
    | some (.slice _), .esl _ => some (.int .i64 0)
    | some .string, .str s => some (.int .i64 s.size)
    | some (.array n _), _ => some (.int .i64 n)
    | _, _ => none := by
  unfold alen lkOf
  cases P.underlying t with
  | none => rfl
  | some d => cases d <;> cases x <;> rfl
def amin (x y : AV) : Option AV :=
  match x, y with
  | .int k a, .int _ b => some (.int k (if b < a then b else a))
  | _, _ => none
def amax (x y : AV) : Option AV :=
  match x, y with
  | .int k a, .int _ b => some (.int k (if b > a then b else a))
  | _, _ => none
def AV.cells? : AV → Option (List AV)
  | .agg cs => some cs
  | .undef => none
  | .gho _ _ => none
  | .tup _ => none
  | v => some [v]
def afill (place : Nat → Option (Nat × Nat)) (cells : List AV) : List (Nat × AV) → Option (List AV)
  | [] => some cells
  | (i, v) :: rest =>
    match place i, v.cells? with
    | some (off, size), some cs =>
      if cs.length ≠ size ∨ off + cs.length > cells.length then none
      else afill place (cs.zipIdx.foldl (fun (l : List AV) (p : AV × Nat) => l.set (off + p.2) p.1) cells) rest
    | _, _ => none
def fieldPlaces (P : Program) : List Field → Option (List (Nat × Nat))
  | [] => some []
  | f :: fs =>
    match szOf P f.type, fieldPlaces P fs with
    | some n, some l => some ((f.offset, n) :: l)
    | _, _ => none
inductive BK where
  | no | str (zero : List AV) (places : List (Nat × Nat)) | arr (zero : List AV) (n : Nat)
def bkOf (P : Program) (t : TypeId) : BK :=
  match P.info? t with
  | some i =>
    match i.zero with
    | some z =>
      match P.underlying t with
      | some (.struct fields) =>
        match fieldPlaces P fields.toList with
        | some places => .str (z.cells.toList.map ofCell) places
        | none => .no
      | some (.array _ e) =>
        match szOf P e with
        | some n => .arr (z.cells.toList.map ofCell) n
        | none => .no
      | _ => .no
    | none => .no
  | none => .no
def abuildR (k : BK) (parts : List (Nat × AV)) : Option AV :=
  match k with
  | .str zero places => (afill (places[·]?) zero parts).map .agg
  | .arr zero n => (afill (fun i => some (i * n, n)) zero parts).map .agg
  | .no => none
def abuild (P : Program) (t : TypeId) (parts : List (Nat × AV)) : Option AV := abuildR (bkOf P t) parts
theorem abuild_old (P : Program) (t : TypeId) (parts : List (Nat × AV)) : abuild P t parts =
    match P.info? t with
    | some i =>
      match i.zero with
      | some z =>
        match P.underlying t with
        | some (.struct fields) =>
          match fieldPlaces P fields.toList with
          | some places => (afill (places[·]?) (z.cells.toList.map ofCell) parts).map .agg
          | none => none
        | some (.array _ e) =>
          match szOf P e with
          | some n => (afill (fun i => some (i * n, n)) (z.cells.toList.map ofCell) parts).map .agg
          | none => none
        | _ => none
      | none => none
    | none => none := by
  unfold abuild bkOf
  repeat' split
  all_goals simp_all [abuildR]
def apick (c a b : AV) : Option AV := match c with | .bool t => some (if t then a else b) | _ => none
def aval (P : Program) (ρ : Operand → AV) : Op → Option AV
  | .move x | .assign x => some (ρ x)
  | .pick c a b => apick (ρ c) (ρ a) (ρ b)
  | .build t parts => abuild P t (parts.toList.map fun p => (p.1, ρ p.2))
  | .nilCheck x => anil (ρ x)
  | .binOp op t x y _ => abin P op t (ρ x) (ρ y)
  | .unOp op _ x => aun op (ρ x)
  | .convert s d x => aconv P s d (ρ x)
  | .makeFunc (.func f) first caps => some (.clo f (first.toList.map ρ) (caps.toList.map ρ))
  | .slice t x lo hi mx => aslice P t (ρ x) (lo.map ρ) (hi.map ρ) (mx.map ρ)
  | .fieldAddr s x f => afieldAddr P s (ρ x) f
  | .field s x f => afield P s (ρ x) f
  | .indexAddr t x i => aindexAddr P t (ρ x) (ρ i)
  | .index t x i => aindex P t (ρ x) (ρ i)
  | .extract x i => aextract (ρ x) i
  | .call { callee := .builtin .cap, args, argTypes } => match args.toList, argTypes.toList with | [x], [t] => acap P t (ρ x) | _, _ => none
  | .call { callee := .builtin .len, args, argTypes } => match args.toList, argTypes.toList with | [x], [t] => alen P t (ρ x) | _, _ => none
  | .call { callee := .builtin .min, args, .. } => match args.toList with | [x, y] => amin (ρ x) (ρ y) | _ => none
  | .call { callee := .builtin .max, args, .. } => match args.toList with | [x, y] => amax (ρ x) (ρ y) | _ => none
  | _ => none
section
variable {P : Program} {w : World} {F A : Nat → Prop} {m : Nat → Nat}
theorem rv_ofCell (v : Value) : RV w F A m (ofCell v) v := by
  unfold ofCell
  split <;> constructor
theorem rv_list_ofCell (cs : Array Value) (i : Nat) (a : AV) (v : Value) (ha : (cs.toList.map ofCell)[i]? = some a) (hv : cs[i]? = some v) : RV w F A m a v := by
  simp only [List.getElem?_map, Array.getElem?_toList, hv, Option.map_some, Option.some.injEq] at ha
  exact ha ▸ rv_ofCell v
theorem rv_ofConst (v : Value) : RV w F A m (ofConst v) v := by
  unfold ofConst
  split
  · exact .agg _ _ (by simp) (rv_list_ofCell _)
  · exact rv_ofCell v
def RF (w : World) (F A : Nat → Prop) (m : Nat → Nat) (fr : AFr) (tmps : Array Value) : Prop := ∀ t, RV w F A m (fr t) (tmps.getD t undef)
theorem RF.eval {fr : AFr} {a : Act} (h : RF w F A m fr a.tmps) (x : Operand) : RV w F A m (fr.eval x) (a.eval x) := by
  cases x with
  | tmp t => exact h t
  | const v => exact rv_ofConst v
  | global g => exact .undef _
  | func f => exact .clo f [] [] #[] #[] rfl rfl (by simp) (by simp)
theorem RF.put {fr : AFr} {a : Act} (h : RF w F A m fr a.tmps) {dst : Option Nat} {x : AV} {v : Value} (hd : ∀ d, dst = some d → d < a.tmps.size) (hv : RV w F A m x v) :
    RF w F A m (fr.put dst x) (a.put dst v).tmps := by
  cases dst with
  | none => exact h
  | some d =>
    intro t
    have hd := hd d rfl
    simp only [AFr.put, AFr.upd, Act.put]
    by_cases ht : t = d
    · subst ht
      simp [hd, hv]
    · have := h t
      have hne : ¬ d = t := fun e => ht e.symm
      simpa [ht, Array.getElem?_setIfInBounds, hne] using this
theorem aarith_sound {op : BinOp} {k : IntKind} {a b : Int} {x : AV} {t : TypeId} (h : aarith op k a b = some x) :
    ∃ v, (binOp op t (.int k a) (.int k b)).run P w = .ok v w ∧ RV w F A m x v := by
  cases op <;> simp only [aarith, Option.some.injEq] at h <;>
    first
    | (subst h; exact ⟨_, rfl, .int _ _⟩)
    | (subst h; exact ⟨_, rfl, .bool _⟩)
    | (subst h; refine ⟨_, ?_, .int _ _⟩; simp [binOp, Op.intArith]; done)
    | (subst h; refine ⟨_, ?_, .int _ _⟩; simp only [binOp, ne_eq, not_true_eq_false, if_false]; rfl)
    | (subst h; refine ⟨_, ?_, .bool _⟩; simp [binOp, Op.intCmp]; done)
    | (split at h
       · cases h
       · rename_i hb
         simp only [Option.some.injEq] at h
         subst h; refine ⟨_, ?_, .int _ _⟩; simp [binOp, Op.intDiv, hb])
    | cases h
theorem ashift_sound {op : BinOp} {k k' : IntKind} {a b : Int} {x : AV} {t : TypeId} (h : ashift op k a b = some x) :
    ∃ v, (binOp op t (.int k a) (.int k' b)).run P w = .ok v w ∧ RV w F A m x v := by
  unfold ashift at h
  split at h
  · cases h
  · rename_i hb
    cases op <;> simp only [Option.some.injEq] at h <;>
      first
      | (subst h; refine ⟨_, ?_, .int _ _⟩; simp [binOp, Op.shift, hb]; done)
      | cases h
theorem aun_sound {op : UnOp} {x z : AV} {v : Value} (h : aun op x = some z) (hx : RV w F A m x v) : ∃ r, (Op.unary op v).run P w = .ok r w ∧ RV w F A m z r := by
  unfold aun at h
  split at h
  · cases hx
    simp only [aarith, Option.some.injEq] at h
    subst h
    exact ⟨_, rfl, .int _ _⟩
  · cases hx
    simp only [aarith, Option.some.injEq] at h
    subst h
    exact ⟨_, rfl, .int _ _⟩
  · cases hx
    simp only [Option.some.injEq] at h
    subst h
    exact ⟨_, rfl, .bool _⟩
  · cases h
theorem aconv_sound {s d : TypeId} {x z : AV} {v : Value} (h : aconv P s d x = some z) (hx : RV w F A m x v) : ∃ r, (convert s d v).run P w = .ok r w ∧ RV w F A m z r := by
  rw [aconv_old] at h
  split at h
  · rename_i hs hd
    cases hx
    simp only [Option.some.injEq] at h
    subst h
    refine ⟨_, ?_, .int _ _⟩
    simp [convert, run_underlying hs, run_underlying hd, Conv.intToInt]
  · cases h
theorem szOf_some {t : TypeId} {n : Nat} (h : szOf P t = some n) : ∃ i, P.info? t = some i ∧ i.size = n := by
  unfold szOf at h
  cases hi : P.info? t with
  | none => simp [hi] at h
  | some i => simp only [hi, Option.map_some, Option.some.injEq] at h; exact ⟨i, rfl, h⟩
theorem run_sizeOf {t : TypeId} {n : Nat} (h : szOf P t = some n) (w : World) : (sizeOf t).run P w = .ok n w := by
  obtain ⟨i, hi, rfl⟩ := szOf_some h
  simp [sizeOf, typeInfo, hi]
theorem run_isAgg {t : TypeId} {b : Bool} (h : aggT P t = some b) (w : World) : (isAgg t).run P w = .ok b w := by
  unfold aggT at h
  split at h
  · rename_i hu; simp only [Option.some.injEq] at h; subst h; simp [isAgg, run_underlying hu]
  · rename_i hu; simp only [Option.some.injEq] at h; subst h; simp [isAgg, run_underlying hu]
  · rename_i d h1 h2 hu
    simp only [Option.some.injEq] at h
    subst h
    unfold isAgg
    rw [Sem.run_bind, run_underlying hu]
    cases d <;> simp_all
  · cases h
theorem apart_sound {t : TypeId} {cs : List AV} {vs : Array Value} {off : Nat} {z : AV} (h : apart P t cs off = some z) (hl : cs.length = vs.size)
    (hc : ∀ (i : Nat) (a : AV) (v : Value), cs[i]? = some a → vs[i]? = some v → RV w F A m a v) : ∃ r, (part t vs off).run P w = .ok r w ∧ RV w F A m z r := by
  rw [apart_old] at h
  split at h
  · rename_i n ha hn
    simp only [Option.some.injEq] at h
    subst h
    refine ⟨.agg (vs.extract off (off + n)), ?_, .agg _ _ ?_ ?_⟩
    · simp [part, run_isAgg ha, run_sizeOf hn]
    · simp [hl]; omega
    · intro i a v h1 h2
      rw [List.getElem?_take] at h1
      split at h1
      · rename_i hi
        rw [List.getElem?_drop] at h1
        refine hc _ a v h1 ?_
        rw [Array.getElem?_extract] at h2
        split at h2
        · exact h2
        · cases h2
      · cases h1
  · rename_i n ha hn
    obtain ⟨v, hv, hx⟩ := RV.getElem hl hc h
    exact ⟨v, by simp [part, run_isAgg ha, hv], hx⟩
  · cases h
theorem ceqs_append : ∀ (l ls : List CK) (as bs : List AV) (r : Bool), ceqs (l ++ ls) as bs = some r →
    ∃ r1 r2, ceqs l (as.take l.length) (bs.take l.length) = some r1 ∧ ceqs ls (as.drop l.length) (bs.drop l.length) = some r2 ∧ r = (r1 && r2)
  | [], ls, as, bs, r, h => ⟨true, r, rfl, by simpa using h, by simp⟩
  | k :: l, ls, [], bs, r, h => by simp [ceqs] at h
  | k :: l, ls, a :: as, [], r, h => by simp [ceqs] at h
  | k :: l, ls, a :: as, b :: bs, r, h => by
    simp only [List.cons_append, ceqs] at h
    split at h <;> try (cases h; done)
    rename_i x y hx hy
    simp only [Option.some.injEq] at h
    obtain ⟨r1, r2, q1, q2, q3⟩ := ceqs_append l ls as bs y hy
    refine ⟨x && r1, r2, ?_, q2, ?_⟩
    · simp only [List.length_cons, List.take_succ_cons, ceqs, hx, q1]
    · rw [← h, q3, Bool.and_assoc]
theorem ceqs_len : ∀ {l : List CK} {as bs : List AV} {r : Bool}, ceqs l as bs = some r → as.length = l.length ∧ bs.length = l.length
  | [], [], [], _, _ => ⟨rfl, rfl⟩
  | [], _ :: _, _, _, h => by simp [ceqs] at h
  | [], [], _ :: _, _, h => by simp [ceqs] at h
  | _ :: _, [], _, _, h => by simp [ceqs] at h
  | _ :: _, _ :: _, [], _, h => by simp [ceqs] at h
  | k :: l, a :: as, b :: bs, r, h => by
    simp only [ceqs] at h
    split at h <;> try (cases h; done)
    rename_i x y hx hy
    have := ceqs_len hy
    simp [this.1, this.2]
theorem ceqs_one {k : CK} {as bs : List AV} {r : Bool} (h : ceqs [k] as bs = some r) : ∃ a b, as = [a] ∧ bs = [b] ∧ ceq k a b = some r := by
  obtain ⟨h1, h2⟩ := ceqs_len h
  match as, bs, h1, h2 with
  | [a], [b], _, _ =>
    refine ⟨a, b, rfl, rfl, ?_⟩
    simp only [ceqs] at h
    split at h <;> try (cases h; done)
    rename_i x y hx hy
    simp only [Option.some.injEq] at h hy
    rw [hx, ← h, ← hy, Bool.and_true]
def eqCells (P : Program) (t : TypeId) (z : AV) (cs : List AV) : Prop := if aggT P t = some true then z = .agg cs else cs = [z]
theorem apart_cells {t : TypeId} {cs : List AV} {off n : Nat} {z : AV} (h : apart P t cs off = some z) (hs : szOf P t = some n) (hn : aggT P t = some false → n = 1) : eqCells P t z ((cs.drop off).take n) := by
  rw [apart_old] at h
  unfold eqCells
  split at h
  · rename_i m ha hm
    rw [hs] at hm
    simp only [Option.some.injEq] at h hm
    subst hm
    rw [if_pos ha, h]
  · rename_i m ha hm
    rw [hs] at hm
    simp only [Option.some.injEq] at hm
    subst hm
    rw [if_neg (by rw [ha]; simp), hn ha]
    rw [List.take_one, List.head?_drop, h]
    rfl
  · cases h
theorem eqK_len {d : Nat} {t : TypeId} {l : List CK} (h : eqK P d t = some l) : (aggT P t = some true) ∨ (aggT P t = some false ∧ ∃ k, l = [k]) := by
  cases d with
  | zero => simp [eqK] at h
  | succ d =>
    unfold eqK at h
    unfold aggT
    split at h <;> first | (cases h; done) | skip
    all_goals rename_i hu
    all_goals rw [hu]
    all_goals first | (left; rfl) | skip
    all_goals
      simp only [Option.some.injEq] at h
      exact .inr ⟨rfl, _, h.symm⟩
theorem eqIn_sound : ∀ (d : Nat),
    (∀ (t : TypeId) (l : List CK) (D : Nat) (z1 z2 : AV) (c1 c2 : List AV) (v1 v2 : Value) (r : Bool), eqK P d t = some l → d ≤ D → RV w F A m z1 v1 → RV w F A m z2 v2 → eqCells P t z1 c1 → eqCells P t z2 c2 → ceqs l c1 c2 = some r →
      (Op.equalIn D t v1 v2).run P w = .ok r w) ∧
    (∀ (fs : List Field) (off : Nat) (l : List CK) (D : Nat) (xs ys : Array Value) (cs ds : List AV) (r : Bool), eqKs P d off fs = some l → d ≤ D → cs.length = xs.size → ds.length = ys.size →
      (∀ (i : Nat) (a : AV) (v : Value), cs[i]? = some a → xs[i]? = some v → RV w F A m a v) → (∀ (i : Nat) (a : AV) (v : Value), ds[i]? = some a → ys[i]? = some v → RV w F A m a v) →
      ceqs l (cs.drop off) (ds.drop off) = some r → (Op.eqFields D xs ys fs).run P w = .ok r w) := by
  intro d
  induction d with
  | zero =>
    refine ⟨fun t l D z1 z2 c1 c2 v1 v2 r h => by simp [eqK] at h, fun fs off l D xs ys cs ds r h _ _ _ _ _ hr => ?_⟩
    cases fs with
    | cons f fs => simp [eqKs] at h
    | nil =>
      simp only [eqKs, Option.some.injEq] at h
      subst h
      have := ceqs_len hr
      have e1 : cs.drop off = [] := List.length_eq_zero_iff.1 this.1
      have e2 : ds.drop off = [] := List.length_eq_zero_iff.1 this.2
      rw [e1, e2] at hr
      simp only [ceqs, Option.some.injEq] at hr
      subst hr
      simp [Op.eqFields]
  | succ d ih =>
    obtain ⟨ihK, ihF⟩ := ih
    have part1 : ∀ (t : TypeId) (l : List CK) (i : TypeInfo) (D : Nat) (xs ys : Array Value) (cs ds : List AV) (off : Nat) (r : Bool), eqK P d t = some l → P.info? t = some i → l.length = i.size → d ≤ D → cs.length = xs.size → ds.length = ys.size →
        (∀ (i : Nat) (a : AV) (v : Value), cs[i]? = some a → xs[i]? = some v → RV w F A m a v) → (∀ (i : Nat) (a : AV) (v : Value), ds[i]? = some a → ys[i]? = some v → RV w F A m a v) →
        ceqs l ((cs.drop off).take l.length) ((ds.drop off).take l.length) = some r →
        ∃ a b, (part t xs off).run P w = .ok a w ∧ (part t ys off).run P w = .ok b w ∧ (Op.equalIn D t a b).run P w = .ok r w := by
      intro t l i D xs ys cs ds off r hl hi hsz hD e1 e2 hc1 hc2 hr
      have hs : szOf P t = some l.length := by simp [szOf, hi, hsz]
      obtain ⟨q1, q2⟩ := ceqs_len hr
      have hn : aggT P t = some false → l.length = 1 := fun ha => by
        rcases eqK_len hl with h | ⟨_, k, rfl⟩
        · rw [h] at ha; cases ha
        · rfl
      have hap : ∀ (cs : List AV), ((cs.drop off).take l.length).length = l.length → ∃ z, apart P t cs off = some z := fun cs hq => by
        rw [apart_old, hs]
        rcases eqK_len hl with h | ⟨h, k, rfl⟩
        · rw [h]; exact ⟨_, rfl⟩
        · rw [h]
          dsimp only
          have : off < cs.length := by simp at hq; omega
          exact ⟨cs[off], by simp [this]⟩
      obtain ⟨z1, hz1⟩ := hap cs q1
      obtain ⟨z2, hz2⟩ := hap ds q2
      obtain ⟨a, p1, p2⟩ := apart_sound hz1 e1 hc1
      obtain ⟨b, p3, p4⟩ := apart_sound hz2 e2 hc2
      exact ⟨a, b, p1, p3, ihK t l D z1 z2 _ _ a b r hl hD p2 p4 (apart_cells hz1 hs hn) (apart_cells hz2 hs hn) hr⟩
    constructor
    · intro t l D z1 z2 c1 c2 v1 v2 r h hD h1 h2 hc1 hc2 hr
      obtain ⟨D, rfl⟩ : ∃ D', D = D' + 1 := ⟨D - 1, by omega⟩
      unfold eqK at h
      unfold eqCells aggT at hc1 hc2
      split at h <;> first | (cases h; done) | skip
      all_goals rename_i hu
      all_goals rw [hu] at hc1 hc2
      all_goals dsimp only at hc1 hc2
      · simp only [Option.some.injEq] at h
        subst h
        rw [if_neg (by simp)] at hc1 hc2
        subst hc1 hc2
        obtain ⟨a, b, q1, q2, q3⟩ := ceqs_one hr
        simp only [List.cons.injEq, and_true] at q1 q2
        subst q1 q2
        unfold ceq at q3
        split at q3 <;> try (cases q3; done)
        all_goals rename_i hkk
        all_goals first | (cases hkk; done) | skip
        cases h1; cases h2
        split at q3 <;> try (cases q3; done)
        rename_i hk
        simp only [Option.some.injEq] at q3
        subst hk q3
        simp [Op.equalIn, run_underlying hu]
      · simp only [Option.some.injEq] at h
        subst h
        rw [if_neg (by simp)] at hc1 hc2
        subst hc1 hc2
        obtain ⟨a, b, q1, q2, q3⟩ := ceqs_one hr
        simp only [List.cons.injEq, and_true] at q1 q2
        subst q1 q2
        unfold ceq at q3
        split at q3 <;> try (cases q3; done)
        all_goals rename_i hkk
        all_goals first | (cases hkk; done) | skip
        cases h1; cases h2
        simp only [Option.some.injEq] at q3
        subst q3
        simp [Op.equalIn, run_underlying hu]
      · simp only [Option.some.injEq] at h
        subst h
        rw [if_neg (by simp)] at hc1 hc2
        subst hc1 hc2
        obtain ⟨a, b, q1, q2, q3⟩ := ceqs_one hr
        simp only [List.cons.injEq, and_true] at q1 q2
        subst q1 q2
        unfold ceq at q3
        split at q3 <;> try (cases q3; done)
        all_goals rename_i hkk
        all_goals first | (cases hkk; done) | skip
        cases h1; cases h2
        simp only [Option.some.injEq] at q3
        subst q3
        simp [Op.equalIn, run_underlying hu]
      · rename_i fs
        split at h <;> try (cases h; done)
        rename_i hst
        simp only [if_true] at hc1 hc2
        subst hc1 hc2
        cases h1 with
        | agg _ xs e1 hx =>
          cases h2 with
          | agg _ ys e2 hy =>
            have hfo : P.fieldsOf t = fs := by simp [Program.fieldsOf, hu]
            rw [run_equalIn_struct w D t xs ys (by rw [hfo]; exact hu) hst, hfo]
            exact ihF fs.toList 0 l D xs ys c1 c2 r h (by omega) e1 e2 hx hy (by simpa using hr)
      · rename_i n e
        split at h <;> try (cases h; done)
        rename_i le i hle hi
        split at h <;> try (cases h; done)
        rename_i hsz
        simp only [Option.some.injEq] at h
        subst h
        simp only [if_true] at hc1 hc2
        subst hc1 hc2
        cases h1 with
        | agg _ xs e1 hx =>
          cases h2 with
          | agg _ ys e2 hy =>
            rw [run_equalIn_array w D xs ys hu hi, List.range_eq_range']
            have hcs : P.cellsOf e = i.size := by simp [Program.cellsOf, hi]
            rw [hcs]
            have go : ∀ (q k : Nat) (r : Bool), ceqs (repK le q) (c1.drop (k * i.size)) (c2.drop (k * i.size)) = some r → (Op.eqItems D e i.size xs ys (List.range' k q)).run P w = .ok r w := by
              intro q
              induction q with
              | zero =>
                intro k r hr
                have := ceqs_len hr
                have f1 : c1.drop (k * i.size) = [] := List.length_eq_zero_iff.1 this.1
                have f2 : c2.drop (k * i.size) = [] := List.length_eq_zero_iff.1 this.2
                rw [f1, f2] at hr
                simp only [repK, ceqs, Option.some.injEq] at hr
                subst hr
                simp [Op.eqItems]
              | succ q ihq =>
                intro k r hr
                obtain ⟨r1, r2, p1, p2, p3⟩ := ceqs_append le (repK le q) _ _ r hr
                obtain ⟨a, b, g1, g2, g3⟩ := part1 e le i D xs ys c1 c2 (k * i.size) r1 hle hi hsz (by omega) e1 e2 hx hy p1
                rw [List.drop_drop, List.drop_drop, hsz, ← Nat.succ_mul] at p2
                have := ihq (k + 1) r2 p2
                rw [List.range'_succ]
                simp only [Op.eqItems, Sem.run_bind, g1, g2, g3, Result.andThen_ok]
                cases r1 with
                | false => simp [p3]
                | true => simp [p3, this]
            exact go n 0 r (by simpa using hr)
    · intro fs off l D xs ys cs ds r h hD e1 e2 hc1 hc2 hr
      cases fs with
      | nil =>
        simp only [eqKs, Option.some.injEq] at h
        subst h
        have := ceqs_len hr
        have e1 : cs.drop off = [] := List.length_eq_zero_iff.1 this.1
        have e2 : ds.drop off = [] := List.length_eq_zero_iff.1 this.2
        rw [e1, e2] at hr
        simp only [ceqs, Option.some.injEq] at hr
        subst hr
        simp [Op.eqFields]
      | cons f fs =>
        unfold eqKs at h
        split at h <;> try (cases h; done)
        rename_i i l1 l2 hi hl1 hl2
        split at h <;> try (cases h; done)
        rename_i hok
        obtain ⟨k1, k2, k3⟩ := hok
        simp only [Option.some.injEq] at h
        subst h k2
        obtain ⟨r1, r2, p1, p2, p3⟩ := ceqs_append l1 l2 _ _ r hr
        obtain ⟨a, b, g1, g2, g3⟩ := part1 f.type l1 i D xs ys cs ds f.offset r1 hl1 hi k3 (by omega) e1 e2 hc1 hc2 p1
        rw [hi] at hl2
        simp only [Option.map_some, Option.getD_some] at hl2
        rw [List.drop_drop, List.drop_drop, k3] at p2
        have := ihF fs (f.offset + i.size) l2 D xs ys cs ds r2 hl2 (by omega) e1 e2 hc1 hc2 p2
        unfold Op.eqFields
        rw [if_pos k1]
        simp only [Sem.run_bind, g1, g2, g3, Result.andThen_ok]
        cases r1 with
        | false => simp [p3]
        | true => simp [p3, this]
theorem run_eql_of {op : BinOp} {t : TypeId} {v u : Value} {r : Bool} {z : AV} (h : eqRes op r = some z) (hr : (Op.equal t v u).run P w = .ok r w)
    (he : (binOp .eql t v u).run P w = ((Op.equal t v u).run P w).andThen fun b w' => .ok (.bool b) w') (hn : (binOp .neq t v u).run P w = ((Op.equal t v u).run P w).andThen fun b w' => .ok (.bool (!b)) w') :
    ∃ x, (binOp op t v u).run P w = .ok x w ∧ RV w F A m z x := by
  unfold eqRes at h
  split at h <;> first | (cases h; done) | skip
  all_goals simp only [Option.some.injEq] at h
  · subst h; exact ⟨.bool r, by rw [he, hr]; rfl, .bool _⟩
  · subst h; exact ⟨.bool (!r), by rw [hn, hr]; rfl, .bool _⟩
theorem abin_sound {op : BinOp} {t : TypeId} {x y z : AV} {x' y' : Operand} {v u : Value} (h : abin P op t x y = some z) (hx : RV w F A m x v) (hy : RV w F A m y u) :
    ∃ r, (do eqGuard op t x' y' v u; binOp op t v u : Sem Value).run P w = .ok r w ∧ RV w F A m z r := by
  have grd : (∀ vs us, v = .agg vs → u = .agg us → False) → v ≠ .nilIface → (eqGuard op t x' y' v u).run P w = .ok () w := fun h1 h2 => by
    unfold eqGuard
    cases op <;> first | rfl | skip
    all_goals
      cases v <;> first | (exact absurd rfl h2) | rfl | skip
      cases u <;> first | rfl | (exact (h1 _ _ rfl rfl).elim)
  have nilP : ∀ {q : QK} {b : Bool} {p : Option Addr}, (match q with | .p => eqRes op b | _ => none) = some z → qkOf P t = q → p.isNone = b → ∃ r, (binOp op t (.pointer p) (.pointer none)).run P w = .ok r w ∧ RV w F A m z r := by
    intro q b p h hq hb
    split at h <;> try (cases h; done)
    have hu : P.underlying t = some (.pointer (P.pointee t)) := by
      unfold qkOf at hq
      repeat' split at hq
      all_goals first | (cases hq; done) | skip
      rename_i e he; simp [Program.pointee, he]
    unfold eqRes at h
    split at h <;> first | (cases h; done) | skip
    all_goals simp only [Option.some.injEq] at h
    all_goals subst h hb
    · exact ⟨_, run_eql_pointer_nil w t _ hu, .bool _⟩
    · exact ⟨_, run_neq_pointer_nil w t _ hu, .bool _⟩
  have nilS : ∀ {q : QK} {b : Bool} {p : Option Addr} {l c : Nat}, (match q with | .s => eqRes op b | _ => none) = some z → qkOf P t = q → p.isNone = b → ∃ r, (binOp op t (.slice p l c) (.slice none 0 0)).run P w = .ok r w ∧ RV w F A m z r := by
    intro q b p l c h hq hb
    split at h <;> try (cases h; done)
    have hu : ∃ e, P.underlying t = some (.slice e) := by
      unfold qkOf at hq
      repeat' split at hq
      all_goals first | (cases hq; done) | skip
      rename_i e he; exact ⟨e, he⟩
    obtain ⟨e, hu⟩ := hu
    have he := run_equal_slice_nil (P := P) w t e p l c hu
    rw [hb] at he
    exact run_eql_of h he (by simp only [binOp]; simp) (by simp only [binOp]; simp)
  unfold abin abinR at h
  split at h
  · cases hx; cases hy
    rename_i k a k' b
    simp only [Sem.run_bind, grd (by simp) (by simp), Result.andThen_ok]
    split at h
    · exact ashift_sound h
    · split at h
      · rename_i hk; subst hk; exact aarith_sound h
      · cases h
  · cases hx; cases hy
    rename_i a b
    simp only [Sem.run_bind, grd (by simp) (by simp), Result.andThen_ok]
    split at h <;> try (cases h; done)
    rename_i hq
    have hu : P.underlying t = some .bool := by
      unfold qkOf at hq; repeat' split at hq
      all_goals first | (cases hq; done) | assumption
    exact run_eql_of h (run_equal_bool w t a b hu) (by simp only [binOp]; simp [Op.equal, Op.maxDepth]) (by simp only [binOp]; simp [Op.equal, Op.maxDepth])
  · cases hx; cases hy
    rename_i a b
    simp only [Sem.run_bind, grd (by simp) (by simp), Result.andThen_ok]
    split at h <;> try (cases h; done)
    rename_i hq
    have hu : P.underlying t = some .string := by
      unfold qkOf at hq; repeat' split at hq
      all_goals first | (cases hq; done) | assumption
    unfold strRes at h
    split at h
    · split at h <;> try (cases h; done)
      rename_i hs
      simp only [Option.some.injEq] at h
      subst h
      exact ⟨.string (a ++ b), by simp only [binOp]; exact run_string_add_sum w a b (by omega), .str _⟩
    unfold eqRes at h
    split at h <;> first | (cases h; done) | skip
    all_goals simp only [Option.some.injEq] at h
    · subst h; exact ⟨.bool (a == b), by simp only [binOp]; simp [Op.stringOp, beq_toListBytes], .bool _⟩
    · subst h; exact ⟨.bool (!(a == b)), by simp only [binOp]; simp [Op.stringOp, beq_toListBytes], .bool _⟩
  · cases hx; cases hy
    simp only [Sem.run_bind, grd (by simp) (by simp), Result.andThen_ok]
    exact nilP h rfl rfl
  · cases hx; cases hy
    simp only [Sem.run_bind, grd (by simp) (by simp), Result.andThen_ok]
    exact nilP h rfl rfl
  · cases hx; cases hy
    simp only [Sem.run_bind, grd (by simp) (by simp), Result.andThen_ok]
    exact nilP h rfl rfl
  · cases hx; cases hy
    simp only [Sem.run_bind, grd (by simp) (by simp), Result.andThen_ok]
    exact nilS h rfl rfl
  · cases hx; cases hy
    simp only [Sem.run_bind, grd (by simp) (by simp), Result.andThen_ok]
    exact nilS h rfl rfl
  · cases hx; cases hy
    simp only [Sem.run_bind, grd (by simp) (by simp), Result.andThen_ok]
    exact nilS h rfl rfl
  · cases hx; cases hy
    simp only [Sem.run_bind, grd (by simp) (by simp), Result.andThen_ok]
    exact nilS h rfl rfl
  · rename_i cs ds
    cases hx with
    | agg _ xs e1 hc1 =>
      cases hy with
      | agg _ ys e2 hc2 =>
        split at h <;> try (cases h; done)
        rename_i l hq
        split at h <;> try (cases h; done)
        rename_i r hr
        have hq : P.eqGuardType P.depth t = false ∧ eqK P 64 t = some l ∧ aggT P t = some true := by
          unfold qkOf at hq
          unfold aggT
          repeat' split at hq
          all_goals first | (cases hq; done) | skip
          all_goals
            rename_i hu hg _ l' hl
            simp only [QK.c.injEq] at hq
            subst hq
            rw [hu]
            exact ⟨hg, hl, rfl⟩
        obtain ⟨hg, hl, ha⟩ := hq
        have hcell : ∀ cs, eqCells P t (.agg cs) cs := fun cs => by unfold eqCells; rw [if_pos ha]
        have he := (eqIn_sound (P := P) (w := w) (F := F) (A := A) (m := m) 64).1 t l 10000 (.agg cs) (.agg ds) cs ds (.agg xs) (.agg ys) r hl (by omega) (.agg cs xs e1 hc1) (.agg ds ys e2 hc2) (hcell cs) (hcell ds) hr
        simp only [Sem.run_bind, run_eqGuard_agg w op t x' y' xs ys hg, Result.andThen_ok]
        exact run_eql_of h (by simpa [Op.equal, Op.maxDepth] using he) (by rw [run_eql_struct]; rfl) (by rw [run_neq_struct]; rfl)
  · cases h
theorem abound_sound {x : Option AV} {v : Option Value} {d y k : Nat} {cap : Nat} {code : BoundsCode} (h : abound x d y = some k) (hx : ∀ a, x = some a → ∃ u, v = some u ∧ RV w F A m a u)
    (hn : x = none → v = none) (hy : y ≤ cap) :
    (match (generalizing := false) v with | some u => Instr.sliceBound u cap code | none => pure d : Sem Nat).run P w = .ok k w := by
  unfold abound at h
  split at h
  · rw [hn rfl]; simp only [Option.some.injEq] at h; subst h; rfl
  · rename_i k' i
    split at h
    · rename_i hi
      obtain ⟨u, rfl, hu⟩ := hx _ rfl
      cases hu
      simp only [Option.some.injEq] at h
      subst h
      simp [Instr.sliceBound, asIntOf, hi.1, show i ≤ (cap : Int) from by omega]
    · cases h
  · cases h
theorem run_sliceBounds {len cap l h : Nat} {isSlice : Bool} {lo hi : Option AV} {lo' hi' : Option Value} {most : Nat} (hm : most ≤ cap)
    (h1 : abound hi len most = some h) (h2 : abound lo 0 h = some l)
    (hhi : ∀ a, hi = some a → ∃ u, hi' = some u ∧ RV w F A m a u) (nhi : hi = none → hi' = none)
    (hlo : ∀ a, lo = some a → ∃ u, lo' = some u ∧ RV w F A m a u) (nlo : lo = none → lo' = none) :
    (Instr.sliceBounds isSlice len cap lo' hi' none).run P w = .ok (l, h, cap) w := by
  have e1 := abound_sound (P := P) (code := if isSlice then .sliceAcap else .sliceAlen) h1 hhi nhi hm
  have e2 := abound_sound (P := P) (code := .sliceB) h2 hlo nlo (Nat.le_refl _)
  cases hi' <;> cases lo' <;> simp_all [Instr.sliceBounds]
theorem abound_le {x : Option AV} {d y k : Nat} (h : abound x d y = some k) (hd : d ≤ y) : k ≤ y := by
  unfold abound at h
  split at h
  · simp only [Option.some.injEq] at h; omega
  · split at h
    · simp only [Option.some.injEq] at h; omega
    · cases h
  · cases h
def ROpt (w : World) (F A : Nat → Prop) (m : Nat → Nat) (x : Option AV) (v : Option Value) : Prop :=
  (∀ a, x = some a → ∃ u, v = some u ∧ RV w F A m a u) ∧ (x = none → v = none)
theorem rv_rsl_part {sz : Nat} {rows : List (List AV)} {a : Option Addr} {len cap l h : Nat} {n : Nat} (hx : RV w F A m (.rsl sz rows) (.slice a len cap)) (hl : l ≤ h) (hh : h ≤ rows.length) (hn : n = sz) :
    RV w F A m (.rsl sz ((rows.take h).drop l)) (.slice (if cap = l then a else a.map (·.add (l * n))) (h - l) (cap - l)) := by
  subst hn
  cases hx with
  | rsl0 s a' cap' h0 =>
    simp at hh
    subst hh
    have : l = 0 := by omega
    subst this
    refine .rsl0 _ _ _ fun h => ?_
    split at h
    · exact h0 h
    · cases a with
      | none => exact h0 rfl
      | some a => cases h
  | rsl s rws cb co cap' val hF hb hc hr hfl hvv hrv =>
    by_cases hle : l = h
    · subst hle
      have : (rows.take l).drop l = [] := by simp
      rw [this, Nat.sub_self]
      exact .rsl0 _ _ _ fun h => by split at h <;> cases h
    · have hlen : ((rows.take h).drop l).length = h - l := by simp; omega
      have hcl : ¬ cap = l := by omega
      rw [if_neg hcl, ← hlen]
      have hadd : (⟨cb, co, none⟩ : Addr).add (l * n) = ⟨cb, co + l * n, none⟩ := by unfold Addr.add; split <;> simp_all
      simp only [Option.map_some, hadd]
      have hget : ∀ i, ((rows.take h).drop l)[i]? = if l + i < h then rows[l + i]? else none := by
        intro i; rw [List.getElem?_drop, List.getElem?_take]
      refine .rsl n _ cb (co + l * n) (cap - l) (fun i j => val (l + i) j) hF hb (by omega) ?_ ?_ ?_ ?_
      · intro row hrow
        exact hr row (List.mem_of_mem_take (List.mem_of_mem_drop hrow))
      · intro row hrow
        exact hfl row (List.mem_of_mem_take (List.mem_of_mem_drop hrow))
      · intro i row j a h1 h2
        rw [hget] at h1
        split at h1
        · obtain ⟨q1, q2⟩ := hvv (l + i) row j a h1 h2
          refine ⟨?_, q2⟩
          rw [← q1]
          congr 2
          rw [Nat.add_mul]; omega
        · cases h1
      · intro i row j a h1 h2
        rw [hget] at h1
        split at h1
        · exact hrv (l + i) row j a h1 h2
        · cases h1
theorem aslice_sound {t : TypeId} {x z : AV} {v : Value} {lo hi mx : Option AV} {lo' hi' mx' : Option Value} (h : aslice P t x lo hi mx = some z) (hx : RV w F A m x v)
    (hlo : ROpt w F A m lo lo') (hhi : ROpt w F A m hi hi') (hmx : ROpt w F A m mx mx') :
    ∃ r, (Instr.sliceAt t v lo' hi' mx').run P w = .ok r w ∧ RV w F A m z r := by
  rw [aslice_old] at h
  split at h
  · rename_i e hu
    have := hmx.2 rfl
    subst this
    split at h
    · rename_i n sz rows hn
      split at h <;> try (cases h; done)
      rename_i hh h1
      split at h <;> try (cases h; done)
      rename_i l h2
      split at h <;> try (cases h; done)
      rename_i hsz
      simp only [Option.some.injEq] at h
      subst h
      have hle := abound_le h2 (Nat.zero_le _)
      have hlh := abound_le h1 (Nat.le_refl _)
      have hv : ∃ a cap, v = .slice a rows.length cap ∧ rows.length ≤ cap := by
        cases hx with
        | rsl0 s a cap => exact ⟨_, _, rfl, Nat.zero_le _⟩
        | rsl s rws cb co cap val hF hb hc hr hfl hvv hrv => exact ⟨_, _, rfl, hc⟩
      obtain ⟨a, cap, rfl, hcap⟩ := hv
      refine ⟨_, ?_, rv_rsl_part hx hle hlh hsz⟩
      simp [Instr.sliceAt, Instr.slice, run_underlying hu, run_sliceBounds (P := P) hcap h1 h2 hhi.1 hhi.2 hlo.1 hlo.2, run_sizeOf hn]
    · rename_i n b sz off len hn
      split at h <;> try (cases h; done)
      rename_i hh h1
      split at h <;> try (cases h; done)
      rename_i l h2
      split at h <;> try (cases h; done)
      rename_i hsz
      have hle := abound_le h2 (Nat.zero_le _)
      have hlh := abound_le h1 (Nat.le_refl _)
      cases hx with
      | sl b sz off len cap e' hA hc hm hs =>
        refine ⟨_, by simp [Instr.sliceAt, Instr.slice, run_underlying hu, run_sliceBounds (P := P) hc h1 h2 hhi.1 hhi.2 hlo.1 hlo.2, run_sizeOf hn]; rfl, ?_⟩
        split at h
        · rename_i hl0
          subst hl0
          simp only [Option.some.injEq] at h
          subst h
          have hadd : (⟨m b, off * sz, none⟩ : Addr).add (0 * n) = ⟨m b, off * sz, none⟩ := by simp [Addr.add]
          simp only [Option.map_some, hadd, ite_self, Nat.sub_zero]
          exact .sl b sz off hh cap e' hA (by omega) hm hs
        · split at h
          · rename_i hl0 hlt
            simp only [Option.some.injEq] at h
            subst h
            have hne : ¬ cap = l := by omega
            have hadd : (⟨m b, off * sz, none⟩ : Addr).add (l * n) = ⟨m b, (off + l) * sz, none⟩ := by
              unfold Addr.add
              split
              · rename_i h0
                have : l * sz = 0 := by rw [← hsz]; exact h0
                simp [Nat.add_mul, this]
              · simp [Nat.add_mul, hsz]
            simp only [if_neg hne, Option.map_some, hadd]
            refine .sl b sz (off + l) (hh - l) (cap - l) e' hA (by omega) (by omega) ?_
            rw [hs]
            congr 3
            omega
          · rename_i hl0 hlt
            simp only [Option.some.injEq] at h
            subst h
            have : hh - l = 0 := by omega
            rw [this]
            exact .rsl0 _ _ _ fun h => by split at h <;> cases h
    · rename_i n hn
      split at h <;> try (cases h; done)
      rename_i hh h1
      split at h <;> try (cases h; done)
      rename_i l h2
      simp only [Option.some.injEq] at h
      subst h
      have hlh := abound_le h1 (Nat.le_refl _)
      have hle := abound_le h2 (Nat.zero_le _)
      cases hx
      refine ⟨_, by simp [Instr.sliceAt, Instr.slice, run_underlying hu, run_sliceBounds (P := P) (Nat.zero_le _) h1 h2 hhi.1 hhi.2 hlo.1 hlo.2, run_sizeOf hn]; rfl, ?_⟩
      have e1 : hh = 0 := by omega
      have e2 : l = 0 := by omega
      subst e1 e2
      exact .nils
    · cases h
  · rename_i hu
    have := hmx.2 rfl
    subst this
    split at h <;> try (cases h; done)
    rename_i s
    split at h <;> try (cases h; done)
    rename_i hh h1
    split at h <;> try (cases h; done)
    rename_i l h2
    simp only [Option.some.injEq] at h
    subst h
    cases hx
    exact ⟨_, by simp [Instr.sliceAt, Instr.slice, run_underlying hu, run_sliceBounds (P := P) (Nat.le_refl _) h1 h2 hhi.1 hhi.2 hlo.1 hlo.2], .str _⟩
  · cases h
theorem run_fieldPlace {f : Field} {n : Nat} (h : szOf P f.type = some n) (hn : n ≠ 0) (a : Addr) : (fieldPlace a f).run P w = .ok (a.add f.offset) w := by
  simp [fieldPlace, run_sizeOf h, hn]
theorem afieldAddr_sound {s : TypeId} {x z : AV} {v : Value} {f : Nat} (h : afieldAddr P s x f = some z) (hx : RV w F A m x v) :
    ∃ r, (Instr.fieldAt s v f).run P w = .ok r w ∧ RV w F A m z r := by
  unfold afieldAddr afieldAddrR at h
  split at h <;> try (cases h; done)
  rename_i o ho
  unfold offOf at ho
  split at ho <;> try (cases ho; done)
  rename_i fields hu
  split at ho <;> try (cases ho; done)
  rename_i fd hf
  split at ho <;> try (cases ho; done)
  rename_i n hn
  split at ho <;> try (cases ho; done)
  rename_i hn0
  simp only [Option.some.injEq] at ho
  subst ho
  split at h
  · rename_i b sz i j
    cases hx with
    | ptr b sz i j hA =>
      simp only [Option.some.injEq] at h
      subst h
      have hadd : (⟨m b, i * sz + j, none⟩ : Addr).add fd.offset = ⟨m b, i * sz + (j + fd.offset), none⟩ := by unfold Addr.add; split <;> simp_all [Nat.add_assoc]
      exact ⟨_, by simp [Instr.fieldAt, run_underlying hu, hf, Instr.sureAddr, run_fieldPlace hn hn0, hadd] <;> rfl, .ptr _ _ _ _ hA⟩
  · rename_i sz rows i j
    cases hx with
    | rptr sz rows i j cb co val hF hb hr hfl hv hrv =>
      simp only [Option.some.injEq] at h
      subst h
      have hadd : (⟨cb, co + (i * sz + j), none⟩ : Addr).add fd.offset = ⟨cb, co + (i * sz + (j + fd.offset)), none⟩ := by unfold Addr.add; split <;> simp_all [Nat.add_assoc]
      exact ⟨_, by simp [Instr.fieldAt, run_underlying hu, hf, Instr.sureAddr, run_fieldPlace hn hn0, hadd] <;> rfl, .rptr sz rows i _ cb co val hF hb hr hfl hv hrv⟩
  · cases h
theorem afield_sound {s : TypeId} {x z : AV} {v : Value} {f : Nat} (h : afield P s x f = some z) (hx : RV w F A m x v) :
    ∃ r, (Instr.field s v f).run P w = .ok r w ∧ RV w F A m z r := by
  unfold afield afieldR at h
  split at h <;> try (cases h; done)
  rename_i o r ho
  unfold fieldK at ho
  split at ho <;> try (cases ho; done)
  rename_i fields hu
  split at ho <;> try (cases ho; done)
  rename_i fd hf
  simp only [Option.some.injEq, Prod.mk.injEq] at ho
  obtain ⟨rfl, rfl⟩ := ho
  split at h <;> try (cases h; done)
  cases hx with
  | agg cs vs hl hc =>
    obtain ⟨r, hr, hx⟩ := apart_sound (t := fd.type) h hl hc
    exact ⟨r, by simp [Instr.field, run_underlying hu, hf, asAgg, hr], hx⟩
theorem add_lit (b o n : Nat) : (⟨b, o, none⟩ : Addr).add n = ⟨b, o + n, none⟩ := by unfold Addr.add; split <;> simp_all
theorem aindexAddr_sound {t : TypeId} {x ix z : AV} {v u : Value} (h : aindexAddr P t x ix = some z) (hx : RV w F A m x v) (hi : RV w F A m ix u) :
    ∃ r, (Instr.indexAt t v u).run P w = .ok r w ∧ RV w F A m z r := by
  unfold aindexAddr aindexAddrR at h
  split at h <;> try (cases h; done)
  rename_i k i
  cases hi
  split at h
  · rename_i n hk
    unfold ikOf at hk
    split at hk
    · rename_i e hu
      split at hk <;> try (cases hk; done)
      rename_i n' hn
      injection hk with hk
      subst hk
      split at h
      · rename_i sz rows
        split at h <;> try (cases h; done)
        rename_i hsz
        subst hsz
        split at h <;> try (cases h; done)
        rename_i hb
        simp only [Option.some.injEq] at h
        subst h
        cases hx with
        | rsl0 s a cap => simp at hb; omega
        | rsl s rws cb co cap val hF hbb hc hr hfl hvv hrv =>
          refine ⟨.pointer (some ⟨cb, co + (i.toNat * n' + 0), none⟩), ?_, .rptr n' rows i.toNat 0 cb co val hF hbb hr hfl hvv hrv⟩
          simp [Instr.indexAt, asIntOf, run_underlying hu, hb, run_sizeOf hn, add_lit]
      · rename_i b sz off len
        split at h <;> try (cases h; done)
        rename_i hsz
        subst hsz
        split at h <;> try (cases h; done)
        rename_i hb
        simp only [Option.some.injEq] at h
        subst h
        cases hx with
        | sl b sz off len cap e' hA hc hm hs =>
          refine ⟨.pointer (some ⟨m b, (off + i.toNat) * n' + 0, none⟩), ?_, .ptr _ _ _ _ hA⟩
          simp [Instr.indexAt, asIntOf, run_underlying hu, hb, run_sizeOf hn, add_lit, Nat.add_mul]
      · cases h
    · split at hk <;> cases hk
    · cases hk
  · rename_i len n hk
    unfold ikOf at hk
    split at hk
    · split at hk <;> cases hk
    · rename_i len' e hu
      split at hk <;> try (cases hk; done)
      rename_i n' hn
      injection hk with hk1 hk2
      subst hk1 hk2
      split at h
      · rename_i b sz r j
        split at h <;> try (cases h; done)
        rename_i hb
        simp only [Option.some.injEq] at h
        subst h
        cases hx with
        | ptr b sz r j hA =>
          refine ⟨.pointer (some ⟨m b, r * sz + (j + i.toNat * n'), none⟩), ?_, .ptr _ _ _ _ hA⟩
          simp [Instr.indexAt, Instr.sureAddr, asIntOf, run_underlying hu, hb, run_sizeOf hn, add_lit, Nat.add_assoc]
      · rename_i sz rows r j
        split at h <;> try (cases h; done)
        rename_i hb
        simp only [Option.some.injEq] at h
        subst h
        cases hx with
        | rptr sz rows r j cb co val hF hbb hr hfl hvv hrv =>
          refine ⟨.pointer (some ⟨cb, co + (r * sz + (j + i.toNat * n')), none⟩), ?_, .rptr sz rows r _ cb co val hF hbb hr hfl hvv hrv⟩
          simp [Instr.indexAt, Instr.sureAddr, asIntOf, run_underlying hu, hb, run_sizeOf hn, add_lit, Nat.add_assoc]
      · cases h
    · cases hk
  · cases h
theorem aindex_sound {t : TypeId} {x ix z : AV} {v u : Value} (h : aindex P t x ix = some z) (hx : RV w F A m x v) (hi : RV w F A m ix u) :
    ∃ r, (Instr.index t v u).run P w = .ok r w ∧ RV w F A m z r := by
  unfold aindex aindexR at h
  split at h <;> try (cases h; done)
  rename_i k i
  cases hi
  split at h
  · rename_i len n r cs hk
    unfold xkOf at hk
    split at hk
    · rename_i len' e hu
      split at hk <;> try (cases hk; done)
      rename_i n' hn
      injection hk with hk1 hk2 hk3
      subst hk1 hk2 hk3
      split at h <;> try (cases h; done)
      rename_i hb
      cases hx with
      | agg cs vs hl hc =>
        obtain ⟨r, hr, hx⟩ := apart_sound (t := e) h hl hc
        exact ⟨r, by simp [Instr.index, asIntOf, run_underlying hu, hb, run_sizeOf hn, hr], hx⟩
    · cases hk
    · cases hk
  · rename_i s hk
    unfold xkOf at hk
    split at hk
    · split at hk <;> cases hk
    · rename_i hu
      split at h <;> try (cases h; done)
      rename_i hb
      split at h <;> try (cases h; done)
      rename_i b hbb
      simp only [Option.some.injEq] at h
      subst h
      cases hx
      exact ⟨_, by simp [Instr.index, asIntOf, run_underlying hu, hb, hbb], .int _ _⟩
    · cases hk
  · cases h
theorem aextract_sound {x z : AV} {v : Value} {i : Nat} (h : aextract x i = some z) (hx : RV w F A m x v) : ∃ r, (Instr.extract v i).run P w = .ok r w ∧ RV w F A m z r := by
  unfold aextract at h
  split at h <;> try (cases h; done)
  cases hx with
  | tup cs vs hl hc =>
    obtain ⟨r, hr, hx⟩ := RV.getElem hl hc h
    exact ⟨r, by simp [Instr.extract, hr], hx⟩
theorem alen_sound {t ty : TypeId} {x z : AV} {v : Value} (h : alen P t x = some z) (hx : RV w F A m x v) : ∃ r, (Builtin.len_ #[t] ty #[v]).run P w = .ok r w ∧ RV w F A m z r := by
  rw [alen_old] at h
  split at h
  · rename_i e sz rows hu
    simp only [Option.some.injEq] at h
    subst h
    cases hx <;> exact ⟨_, by simp [Builtin.len_, run_underlying hu, goInt] <;> rfl, .int _ _⟩
  · rename_i e _ _ _ len hu
    simp only [Option.some.injEq] at h
    subst h
    cases hx
    exact ⟨_, by simp [Builtin.len_, run_underlying hu, goInt] <;> rfl, .int _ _⟩
  · rename_i e hu
    simp only [Option.some.injEq] at h
    subst h
    cases hx
    exact ⟨_, by simp [Builtin.len_, run_underlying hu, goInt] <;> rfl, .int _ _⟩
  · rename_i e _ hu
    simp only [Option.some.injEq] at h
    subst h
    cases hx
    exact ⟨_, by simp [Builtin.len_, run_underlying hu, goInt] <;> rfl, .int _ _⟩
  · rename_i s hu
    simp only [Option.some.injEq] at h
    subst h
    cases hx
    exact ⟨_, by simp [Builtin.len_, run_underlying hu, goInt] <;> rfl, .int _ _⟩
  · rename_i x' n e hu
    simp only [Option.some.injEq] at h
    subst h
    exact ⟨_, by simp [Builtin.len_, run_underlying hu, goInt] <;> rfl, .int _ _⟩
  · cases h
theorem acap_sound {t ty : TypeId} {x z : AV} {v : Value} (h : acap P t x = some z) (hx : RV w F A m x v) : ∃ r, (Builtin.cap_ #[t] ty #[v]).run P w = .ok r w ∧ RV w F A m z r := by
  unfold acap acapR at h
  split at h
  · rename_i hk
    simp only [Option.some.injEq] at h
    subst h
    cases hx
    have hu : ∃ e, P.underlying t = some (.slice e) := by
      unfold lkOf at hk
      split at hk <;> first | (cases hk; done) | exact ⟨_, by assumption⟩
    obtain ⟨e, hu⟩ := hu
    exact ⟨_, by simp [Builtin.cap_, run_underlying hu, goInt] <;> rfl, .int _ _⟩
  · cases h
theorem amin_sound {x y z : AV} {v u : Value} {ty : TypeId} {ts : Array TypeId} (h : amin x y = some z) (hx : RV w F A m x v) (hy : RV w F A m y u) :
    ∃ r, (Builtin.min_ ts ty #[v, u]).run P w = .ok r w ∧ RV w F A m z r := by
  unfold amin at h
  split at h <;> try (cases h; done)
  cases hx; cases hy
  simp only [Option.some.injEq] at h
  subst h
  exact ⟨_, by simp [Builtin.min_, Builtin.min2] <;> rfl, .int _ _⟩
theorem amax_sound {x y z : AV} {v u : Value} {ty : TypeId} {ts : Array TypeId} (h : amax x y = some z) (hx : RV w F A m x v) (hy : RV w F A m y u) :
    ∃ r, (Builtin.max_ ts ty #[v, u]).run P w = .ok r w ∧ RV w F A m z r := by
  unfold amax at h
  split at h <;> try (cases h; done)
  cases hx; cases hy
  simp only [Option.some.injEq] at h
  subst h
  exact ⟨_, by simp [Builtin.max_, Builtin.max2] <;> rfl, .int _ _⟩
def RL (w : World) (F A : Nat → Prop) (m : Nat → Nat) (cs : List AV) (vs : List Value) : Prop :=
  cs.length = vs.length ∧ ∀ (i : Nat) (a : AV) (v : Value), cs[i]? = some a → vs[i]? = some v → RV w F A m a v
theorem cells_sound {x : AV} {cs : List AV} {v : Value} (h : x.cells? = some cs) (hx : RV w F A m x v) : RL w F A m cs v.cells.toList := by
  have one : ∀ {x : AV} {v : Value}, RV w F A m x v → v.cells = #[v] → RL w F A m [x] v.cells.toList := by
    intro x v hx hv
    rw [hv]
    refine ⟨rfl, fun i a u h1 h2 => ?_⟩
    cases i with
    | zero => simp at h1 h2; subst h1 h2; exact hx
    | succ i => simp at h1
  cases x <;> simp only [AV.cells?, Option.some.injEq] at h <;> first
    | (cases h; done)
    | (subst h; exact one hx (by cases hx <;> rfl))
    | skip
  · subst h
    cases hx with
    | agg cs vs hl hc => exact ⟨by simpa [Value.cells] using hl, by simpa [Value.cells] using hc⟩
theorem RL.set {cs : List AV} {vs : List Value} (h : RL w F A m cs vs) {i : Nat} {a : AV} {v : Value} (hx : RV w F A m a v) : RL w F A m (cs.set i a) (vs.set i v) := by
  refine ⟨by simp [h.1], fun j b u h1 h2 => ?_⟩
  rw [List.getElem?_set] at h1 h2
  by_cases hij : i = j
  · subst hij
    rw [if_pos rfl] at h1 h2
    split at h1
    · split at h2
      · simp only [Option.some.injEq] at h1 h2; subst h1 h2; exact hx
      · cases h2
    · cases h1
  · rw [if_neg hij] at h1 h2
    exact h.2 j b u h1 h2
theorem RL.puts (off : Nat) : ∀ (xs : List AV) (ys : List Value) (k : Nat) (cs : List AV) (vs : List Value), RL w F A m xs ys → RL w F A m cs vs →
    RL w F A m ((xs.zipIdx k).foldl (fun (l : List AV) (p : AV × Nat) => l.set (off + p.2) p.1) cs) ((ys.zipIdx k).foldl (fun (l : List Value) (p : Value × Nat) => l.set (off + p.2) p.1) vs)
  | [], ys, k, cs, vs, h, h' => by
    have : ys = [] := List.eq_nil_of_length_eq_zero (by simpa using h.1.symm)
    subst this
    exact h'
  | x :: xs, [], k, cs, vs, h, h' => by simp [RL] at h
  | x :: xs, y :: ys, k, cs, vs, h, h' => by
    simp only [List.zipIdx_cons, List.foldl_cons]
    refine RL.puts off xs ys (k + 1) _ _ ⟨by simpa using h.1, fun i a v h1 h2 => h.2 (i + 1) a v (by simpa using h1) (by simpa using h2)⟩ ?_
    exact h'.set (h.2 0 x y rfl rfl)
theorem afill_sound (place : Nat → Option (Nat × Nat)) : ∀ (parts : List (Nat × AV)) (parts' : List (Nat × Value)) (cs : List AV) (vs : Array Value) (out : List AV),
    afill place cs parts = some out → parts.length = parts'.length → (∀ (i : Nat) (p : Nat × AV) (q : Nat × Value), parts[i]? = some p → parts'[i]? = some q → p.1 = q.1 ∧ RV w F A m p.2 q.2) →
    RL w F A m cs vs.toList → ∃ out', Instr.fill place vs parts' = some out' ∧ RL w F A m out out'.toList
  | [], [], cs, vs, out, h, _, _, hc => by
    simp only [afill, Option.some.injEq] at h
    subst h
    exact ⟨vs, rfl, hc⟩
  | [], _ :: _, _, _, _, _, hl, _, _ => by simp at hl
  | _ :: _, [], _, _, _, _, hl, _, _ => by simp at hl
  | (i, x) :: rest, (i', v) :: rest', cs, vs, out, h, hl, hp, hc => by
    obtain ⟨e, hx⟩ := hp 0 _ _ rfl rfl
    simp only at e hx
    subst e
    simp only [afill] at h
    split at h
    · rename_i off size cs' hpl hcs
      split at h
      · cases h
      · rename_i hok
        have hcv := cells_sound hcs hx
        obtain ⟨out', ho, hr⟩ := afill_sound place rest rest' _ (v.cells.zipIdx.foldl (fun cs (c, j) => cs.setIfInBounds (off + j) c) vs) out h (by simpa using hl)
          (fun j p q h1 h2 => hp (j + 1) p q (by simpa using h1) (by simpa using h2)) (by
            rw [← Array.foldl_toList, Array.toList_zipIdx]
            have key : ∀ (l : List (Value × Nat)) (z : Array Value), (l.foldl (fun (cs : Array Value) (p : Value × Nat) => cs.setIfInBounds (off + p.2) p.1) z).toList = l.foldl (fun (l : List Value) (p : Value × Nat) => l.set (off + p.2) p.1) z.toList := by
              intro l
              induction l with
              | nil => intro z; rfl
              | cons p l ih => intro z; simp only [List.foldl_cons, ih, Array.toList_setIfInBounds]
            rw [key]
            exact RL.puts off _ _ 0 _ _ hcv hc)
        refine ⟨out', ?_, hr⟩
        have h1 : v.cells.size = cs'.length := by simpa using hcv.1.symm
        have h2 : vs.size = cs.length := by simpa using hc.1.symm
        simp only [Instr.fill, hpl, h1, h2, ne_eq] at ho ⊢
        rw [if_neg (by simpa using hok)]
        exact ho
    · cases h
theorem run_places : ∀ (fs : List Field) (l : List (Nat × Nat)) (acc : Array (Nat × Nat)), fieldPlaces P fs = some l →
    (fs.foldlM (fun (acc : Array (Nat × Nat)) f => do pure (acc.push (← (do pure (f.offset, ← sizeOf f.type) : Sem (Nat × Nat))))) acc : Sem (Array (Nat × Nat))).run P w = .ok (acc ++ l.toArray) w
  | [], l, acc, h => by
    simp only [fieldPlaces, Option.some.injEq] at h
    subst h
    simp
  | f :: fs, l, acc, h => by
    simp only [fieldPlaces] at h
    split at h
    · rename_i n l' hn hl
      simp only [Option.some.injEq] at h
      subst h
      have ih := run_places fs l' (acc.push (f.offset, n)) hl
      simp only [List.foldlM_cons, Sem.run_bind, run_sizeOf hn, Result.andThen_ok, Sem.run_pure, ih]
      congr 1
      apply Array.toList_inj.1
      simp
    · cases h
theorem rl_ofCell (cs : Array Value) : RL w F A m (cs.toList.map ofCell) cs.toList :=
  ⟨by simp, fun i a v h1 h2 => rv_list_ofCell cs i a v h1 (by simpa using h2)⟩
theorem abuild_sound {t : TypeId} {parts : List (Nat × AV)} {parts' : Array (Nat × Value)} {z : AV} (h : abuild P t parts = some z) (hl : parts.length = parts'.size)
    (hp : ∀ (i : Nat) (p : Nat × AV) (q : Nat × Value), parts[i]? = some p → parts'[i]? = some q → p.1 = q.1 ∧ RV w F A m p.2 q.2) :
    ∃ r, (Instr.build t parts').run P w = .ok r w ∧ RV w F A m z r := by
  rw [abuild_old] at h
  split at h <;> try (cases h; done)
  rename_i i hi
  split at h <;> try (cases h; done)
  rename_i zv hz
  have hzero : (zeroValue t).run P w = .ok zv w := by simp [zeroValue, typeInfo, hi, hz]
  split at h
  · rename_i fields hu
    split at h <;> try (cases h; done)
    rename_i places hpl
    cases hf : afill (places[·]?) (zv.cells.toList.map ofCell) parts with
    | none => simp [hf] at h
    | some out =>
      simp only [hf, Option.map_some, Option.some.injEq] at h
      subst h
      obtain ⟨out', ho, hr⟩ := afill_sound (w := w) (F := F) (A := A) (m := m) (places[·]?) parts parts'.toList _ zv.cells out hf (by simpa using hl) (fun i p q h1 h2 => hp i p q h1 (by simpa using h2)) (rl_ofCell _)
      have hm : (fields.mapM fun f => do pure (f.offset, ← sizeOf f.type) : Sem (Array (Nat × Nat))).run P w = .ok places.toArray w := by
        rw [Array.mapM_eq_foldlM, ← Array.foldlM_toList]
        have := run_places (P := P) (w := w) fields.toList places #[] hpl
        simpa using this
      refine ⟨.agg out', ?_, .agg _ _ (by simpa using hr.1) (fun i a v h1 h2 => hr.2 i a v h1 (by simpa using h2))⟩
      simp only [Instr.build, Sem.run_bind, hzero, Result.andThen_ok, run_underlying hu, hm]
      have ho' : Instr.fill (fun x => places.toArray[x]?) zv.cells parts'.toList = some out' := by simpa using ho
      rw [ho']
      rfl
  · rename_i n e hu
    split at h <;> try (cases h; done)
    rename_i sz hsz
    cases hf : afill (fun i => some (i * sz, sz)) (zv.cells.toList.map ofCell) parts with
    | none => simp [hf] at h
    | some out =>
      simp only [hf, Option.map_some, Option.some.injEq] at h
      subst h
      obtain ⟨out', ho, hr⟩ := afill_sound (w := w) (F := F) (A := A) (m := m) (fun i => some (i * sz, sz)) parts parts'.toList _ zv.cells out hf (by simpa using hl) (fun i p q h1 h2 => hp i p q h1 (by simpa using h2)) (rl_ofCell _)
      refine ⟨.agg out', ?_, .agg _ _ (by simpa using hr.1) (fun i a v h1 h2 => hr.2 i a v h1 (by simpa using h2))⟩
      simp [Instr.build, hzero, run_underlying hu, run_sizeOf hsz, ho]
  · cases h
theorem aval_sound {fr : AFr} {a : Act} {o : Oper} {z : AV} (h : aval P fr.eval o.op = some z) (hf : RF w F A m fr a.tmps) :
    ∃ r, (execOp a.eval o).run P w = .ok (.value r) w ∧ RV w F A m z r := by
  obtain ⟨dst, op, type, pos, after, guard⟩ := o
  have lift : ∀ {s : Sem Value}, (∃ r, s.run P w = .ok r w ∧ RV w F A m z r) → ∃ r, (do pure (Next.value (← s)) : Sem Next).run P w = .ok (.value r) w ∧ RV w F A m z r :=
    fun ⟨r, h1, h2⟩ => ⟨r, by simp [h1], h2⟩
  have opt : ∀ x : Option Operand, ROpt w F A m (x.map fr.eval) (x.map a.eval) := fun x => by
    cases x with
    | none => exact ⟨fun _ h => by simp at h, fun _ => rfl⟩
    | some x => exact ⟨fun y h => ⟨_, rfl, by simp at h; exact h ▸ hf.eval x⟩, fun h => by simp at h⟩
  cases op <;> simp only [aval] at h <;> first | (cases h; done) | skip
  case move x => simp only [Option.some.injEq] at h; subst h; exact ⟨_, rfl, hf.eval x⟩
  case assign x => simp only [Option.some.injEq] at h; subst h; exact ⟨_, rfl, hf.eval x⟩
  case pick c x y =>
    unfold apick at h
    split at h <;> try (cases h; done)
    rename_i t ht
    simp only [Option.some.injEq] at h
    subst h
    have hc := hf.eval c
    rw [ht] at hc
    generalize hv : a.eval c = v at hc
    cases hc
    refine ⟨_, by simp only [execOp, hv, asBool]; rfl, ?_⟩
    cases t
    · exact hf.eval y
    · exact hf.eval x
  case build t parts =>
    refine lift (abuild_sound h (by simp) ?_)
    intro i p q h1 h2
    simp only [List.getElem?_map, Array.getElem?_toList, Option.map_eq_some_iff, Array.getElem?_map] at h1 h2
    obtain ⟨p0, e1, rfl⟩ := h1
    obtain ⟨p1, e2, rfl⟩ := h2
    rw [e1] at e2
    simp only [Option.some.injEq] at e2
    subst e2
    exact ⟨rfl, hf.eval _⟩
  case nilCheck x =>
    have hx := hf.eval x
    unfold anil at h
    split at h <;> try (cases h; done)
    all_goals
      rename_i hx'
      simp only [Option.some.injEq] at h
      subst h
      rw [hx'] at hx ⊢
      generalize hv : a.eval x = v at hx
      refine ⟨v, ?_, hx⟩
      cases hx <;> simp [execOp, hv]
  case binOp op t x y yt => exact lift (abin_sound h (hf.eval x) (hf.eval y))
  case unOp op t x => exact lift (aun_sound h (hf.eval x))
  case convert s d x => exact lift (aconv_sound h (hf.eval x))
  case makeFunc fn first caps =>
    cases fn <;> first | (cases h; done) | skip
    have h := Option.some.inj h
    subst h
    have all : ∀ xs : Array Operand, ∀ (i : Nat) (b : AV) (v : Value), (xs.toList.map fr.eval)[i]? = some b → (xs.map a.eval)[i]? = some v → RV w F A m b v := by
      intro xs i b v h1 h2
      simp only [List.getElem?_map, Array.getElem?_toList, Option.map_eq_some_iff, Array.getElem?_map] at h1 h2
      obtain ⟨p0, e1, rfl⟩ := h1
      obtain ⟨p1, e2, rfl⟩ := h2
      rw [e1] at e2
      simp only [Option.some.injEq] at e2
      subst e2
      exact hf.eval _
    exact ⟨_, rfl, .clo _ _ _ _ _ (by simp) (by simp) (all first) (all caps)⟩
  case slice t x lo hi mx => exact lift (aslice_sound h (hf.eval x) (opt lo) (opt hi) (opt mx))
  case fieldAddr s x f => exact lift (afieldAddr_sound h (hf.eval x))
  case field s x f => exact lift (afield_sound h (hf.eval x))
  case indexAddr t x i => exact lift (aindexAddr_sound h (hf.eval x) (hf.eval i))
  case index t x i => exact lift (aindex_sound h (hf.eval x) (hf.eval i))
  case extract x i => exact lift (aextract_sound h (hf.eval x))
  case call c =>
    obtain ⟨callee, args, argTypes⟩ := c
    cases callee <;> first | (cases h; done) | skip
    rename_i b
    cases b <;> first | (cases h; done) | skip
    all_goals dsimp only at h
    · split at h <;> try (cases h; done)
      rename_i x t ha ht
      have ha : args = #[x] := Array.toList_inj.1 ha
      have ht : argTypes = #[t] := Array.toList_inj.1 ht
      subst ha ht
      obtain ⟨r, h1, h2⟩ := acap_sound (ty := type) h (hf.eval x)
      exact ⟨r, by simp [execOp, resolve, invoke, builtin, h1], h2⟩
    · split at h <;> try (cases h; done)
      rename_i x t ha ht
      have ha : args = #[x] := Array.toList_inj.1 ha
      have ht : argTypes = #[t] := Array.toList_inj.1 ht
      subst ha ht
      obtain ⟨r, h1, h2⟩ := alen_sound (ty := type) h (hf.eval x)
      exact ⟨r, by simp [execOp, resolve, invoke, builtin, h1], h2⟩
    · split at h <;> try (cases h; done)
      rename_i x y ha
      have ha : args = #[x, y] := Array.toList_inj.1 ha
      subst ha
      obtain ⟨r, h1, h2⟩ := amax_sound (P := P) (ty := type) (ts := argTypes) h (hf.eval x) (hf.eval y)
      exact ⟨r, by simp [execOp, resolve, invoke, builtin, h1], h2⟩
    · split at h <;> try (cases h; done)
      rename_i x y ha
      have ha : args = #[x, y] := Array.toList_inj.1 ha
      subst ha
      obtain ⟨r, h1, h2⟩ := amin_sound (P := P) (ty := type) (ts := argTypes) h (hf.eval x) (hf.eval y)
      exact ⟨r, by simp [execOp, resolve, invoke, builtin, h1], h2⟩
end
end Go.Abs
end
section
set_option linter.unusedSimpArgs false
set_option linter.unusedVariables false
namespace Go.Abs
def AV.isCell : AV → Bool
  | .undef | .agg _ | .tup _ | .gho _ _ => false
  | _ => true
def readRowR (r : Option (Option Nat)) (row : List AV) (j : Nat) : Option AV :=
  match r with
  | some (some n) => if j + n ≤ row.length then some (.agg ((row.drop j).take n)) else none
  | some none => row[j]?
  | none => none
def readRow (P : Program) (t : TypeId) (row : List AV) (j : Nat) : Option AV := readRowR (rdOf P t) row j
theorem readRow_old (P : Program) (t : TypeId) (row : List AV) (j : Nat) : readRow P t row j =
    match aggT P t, szOf P t with
    | some true, some n => if j + n ≤ row.length then some (.agg ((row.drop j).take n)) else none
    | some false, some _ => row[j]?
    | _, _ => none := by
  unfold readRow rdOf
  cases aggT P t with
  | none => cases szOf P t <;> rfl
  | some b => cases b <;> cases szOf P t <;> rfl
def aloadR (r : Option (Option Nat)) (p : AV) (H : AHeap) : Option AV :=
  match p with
  | .ptr b sz i j =>
    match H.get b with
    | some blk => if blk.sz = sz then (match blk.rows[i]? with | some row => readRowR r row j | none => none) else none
    | none => none
  | .rptr _ rows i j => match rows[i]? with | some row => readRowR r row j | none => none
  | _ => none
def aload (P : Program) (t : TypeId) (p : AV) (H : AHeap) : Option AV := aloadR (rdOf P t) p H
def setCells (row : List AV) (j : Nat) : List AV → List AV
  | [] => row
  | c :: cs => setCells (row.set j c) (j + 1) cs
def astoreR (k : Option Nat) (p v : AV) (H : AHeap) : Option AHeap :=
  match p with
  | .ptr b sz i j =>
    match H.get b, v.cells?, k with
    | some blk, some cs, some n =>
      if blk.sz = sz ∧ cs.length = n ∧ cs.all AV.isCell = true then
        match blk.rows[i]? with
        | some row => if j + n ≤ sz then some (H.set b (some { e := blk.e, sz := blk.sz, flat := blk.flat && cs.all AV.flat, rows := blk.rows.set i (setCells row j cs) })) else none
        | none => none
      else none
    | _, _, _ => none
  | _ => none
def astore (P : Program) (t : TypeId) (p v : AV) (H : AHeap) : Option AHeap := astoreR (szOf P t) p v H
def abox (e : TypeId) (v : AV) (H : AHeap) : Option (AV × AHeap) :=
  match v.cells? with
  | some cs => if cs.all AV.isCell = true then some (.ptr H.next cs.length 0 0, H.push { e, sz := cs.length, flat := cs.all AV.flat, rows := [cs] }) else none
  | none => none
def zeroOf (P : Program) (e : TypeId) : Option AV :=
  match P.info? e with
  | some i => match i.zero with
    | some z => some (ofConst z)
    | none => none
  | none => none
def aallocR (e : TypeId) (z : Option AV) (H : AHeap) : Option (AV × AHeap) :=
  match z with
  | some z => abox e z H
  | none => none
def aalloc (P : Program) (e : TypeId) (H : AHeap) : Option (AV × AHeap) := aallocR e (zeroOf P e) H
theorem aalloc_old (P : Program) (e : TypeId) (H : AHeap) : aalloc P e H =
    match P.info? e with
    | some i => match i.zero with
      | some z => abox e (ofConst z) H
      | none => none
    | none => none := by
  unfold aalloc zeroOf
  cases P.info? e with
  | none => rfl
  | some i => dsimp only; cases i.zero <;> rfl
def chunks (sz : Nat) : Nat → List AV → List (List AV)
  | 0, _ => []
  | n + 1, cs => cs.take sz :: chunks sz n (cs.drop sz)
def reps (zero : List AV) : Nat → List AV
  | 0 => []
  | n + 1 => zero ++ reps zero n
structure EK where
  e : TypeId
  size : Nat
  bytes : Nat
  zero : List AV
def ekOf (P : Program) (t : TypeId) : Option EK :=
  match P.underlying t with
  | some (.slice e) =>
    match P.info? e with
    | some i =>
      match i.zero with
      | some z => if z.cells.size = i.size ∧ 0 < i.size then some ⟨e, i.size, i.bytes, z.cells.toList.map ofCell⟩ else none
      | none => none
    | none => none
  | _ => none
theorem ekOf_some {P : Program} {t : TypeId} {k : EK} (h : ekOf P t = some k) : ∃ i z, P.underlying t = some (.slice k.e) ∧ P.info? k.e = some i ∧ i.zero = some z ∧ z.cells.size = i.size ∧ 0 < i.size ∧
    k.size = i.size ∧ k.bytes = i.bytes ∧ k.zero = z.cells.toList.map ofCell := by
  unfold ekOf at h
  split at h <;> try (cases h; done)
  rename_i e hu
  split at h <;> try (cases h; done)
  rename_i i hi
  split at h <;> try (cases h; done)
  rename_i z hz
  split at h <;> try (cases h; done)
  rename_i hok
  simp only [Option.some.injEq] at h
  subst h
  exact ⟨i, z, hu, hi, hz, hok.1, hok.2, rfl, rfl, rfl⟩
def abuildSliceR (k : Option EK) (len : Nat) (parts : List (Nat × AV)) (H : AHeap) : Option (AV × AHeap) :=
  match k with
  | some k =>
    if len * k.size ≤ 16777216 then
      match afill (fun q => some (q * k.size, k.size)) (reps k.zero len) parts with
      | some cs => if cs.all AV.isCell = true then some (.sl H.next k.size 0 len, H.push { e := k.e, sz := k.size, flat := cs.all AV.flat, rows := chunks k.size len cs }) else none
      | none => none
    else none
  | none => none
def abuildSlice (P : Program) (t : TypeId) (len : Nat) (parts : List (Nat × AV)) (H : AHeap) : Option (AV × AHeap) := abuildSliceR (ekOf P t) len parts H
def amakeR (k : Option EK) (l c : AV) (H : AHeap) : Option (AV × AHeap) :=
  match k, l, c with
  | some k, .int _ n, .int _ q =>
    if 0 ≤ n ∧ n ≤ q ∧ (k.bytes : Int) * q ≤ 140737488355328 ∧ 0 < k.bytes ∧ k.zero.all AV.isCell = true then
      some (.sl H.next k.size 0 n.toNat, H.push { e := k.e, sz := k.size, flat := k.zero.all AV.flat, rows := List.replicate n.toNat k.zero })
    else none
  | _, _, _ => none
def amake (P : Program) (t : TypeId) (l c : AV) (H : AHeap) : Option (AV × AHeap) := amakeR (ekOf P t) l c H
def rowsOf (x : AV) (sz : Nat) (H : AHeap) : Option (List (List AV) × Bool) :=
  match x with
  | .nils => some ([], true)
  | .esl _ => some ([], true)
  | .rsl s rows => if s = sz then some (rows, true) else none
  | .sl b s off len =>
    match H.get b with
    | some blk => if s = sz ∧ blk.sz = sz ∧ off + len ≤ blk.rows.length then some ((blk.rows.drop off).take len, blk.flat) else none
    | none => none
  | _ => none
def aappendR (k : Option EK) (s x : AV) (H : AHeap) : Option (AV × AHeap) :=
  match k with
  | some k =>
    match rowsOf x k.size H with
    | some (new, fl) =>
      if 0 < k.bytes then
        match s with
        | .nils =>
          if new.length * k.bytes ≤ 140737488355328 then
            (if new = [] then some (.nils, { next := H.next + 1, get := H.get }) else some (.sl H.next k.size 0 new.length, H.push { e := k.e, sz := k.size, flat := fl, rows := new }))
          else none
        | .sl b sz 0 len =>
          match H.get b with
          | some blk =>
            if sz = k.size ∧ blk.sz = sz ∧ blk.e = k.e ∧ blk.rows.length = len ∧ (len + new.length) * k.bytes ≤ 140737488355328 then
              some (.sl H.next sz 0 (len + new.length), (H.set b none).push { e := k.e, sz, flat := blk.flat && fl, rows := blk.rows ++ new })
            else none
          | none => none
        | _ => none
      else none
    | none => none
  | none => none
def aappend (P : Program) (t : TypeId) (s x : AV) (H : AHeap) : Option (AV × AHeap) := aappendR (ekOf P t) s x H
def aappendZR (i : Bool) (k : Option EK) (s x : AV) (H : AHeap) : Option (AV × AHeap) :=
  match i, k, s, x with
  | true, some k, .nils, .int .i64 n =>
    if 0 < n ∧ n * k.bytes ≤ 140737488355328 ∧ 0 < k.bytes then some (.sl H.next k.size 0 n.toNat, H.push { e := k.e, sz := k.size, flat := true, rows := [] }) else none
  | _, _, _, _ => none
def isInt (P : Program) (t : TypeId) : Bool := match P.underlying t with | some (.int _) => true | _ => false
def aappendZ (P : Program) (t t' : TypeId) (s x : AV) (H : AHeap) : Option (AV × AHeap) := aappendZR (isInt P t') (ekOf P t) s x H
section
variable {P : Program} {w : World} {F A : Nat → Prop} {m : Nat → Nat} {H : AHeap}
theorem isCell_one {a : AV} {v : Value} (h : a.isCell = true) (hx : RV w F A m a v) : v.oneCell' = true := by
  cases hx <;> first | rfl | (simp [AV.isCell] at h)
theorem readRow_sound {t : TypeId} {row : List AV} {j : Nat} {z : AV} (h : readRow P t row j = some z) (cb o : Nat) (val : Nat → Value)
    (hv : ∀ (k : Nat) (a : AV), row[k]? = some a → w.cell? ⟨cb, o + k, none⟩ = some (val k)) (hx : ∀ (k : Nat) (a : AV), row[k]? = some a → RV w F A m a (val k)) :
    ∃ r, (loadVar t ⟨cb, o + j, none⟩).run P w = .ok r w ∧ RV w F A m z r := by
  rw [readRow_old] at h
  split at h
  · rename_i n ha hn
    split at h <;> try (cases h; done)
    rename_i hle
    simp only [Option.some.injEq] at h
    subst h
    have hl := run_loadCells_list (P := P) w ⟨cb, o + j, none⟩ ((List.range n).map fun k => val (j + k)) (fun k v hk => by
      have hk2 : k < n := by have := (List.getElem?_eq_some_iff.1 hk).1; simpa using this
      have hk3 : v = val (j + k) := by simpa [hk2] using hk.symm
      have hlt : j + k < row.length := by omega
      rw [add_lit, Nat.add_assoc, hk3]
      exact hv (j + k) row[j + k] (by simp [hlt]))
    have hlen : ((List.range n).map fun k => val (j + k)).length = n := by simp
    rw [hlen] at hl
    refine ⟨.agg ((List.range n).map fun k => val (j + k)).toArray, by simp [loadVar, run_isAgg ha, run_sizeOf hn, hl], .agg _ _ (by simp; omega) ?_⟩
    intro i a v h1 h2
    rw [List.getElem?_take] at h1
    split at h1
    · rename_i hi
      rw [List.getElem?_drop] at h1
      simp [hi] at h2
      subst h2
      exact hx _ a h1
    · cases h1
  · rename_i n ha hn
    exact ⟨val j, by simp [loadVar, run_isAgg ha, hv j z h], hx j z h⟩
  · cases h
theorem aload_sound {t : TypeId} {p z : AV} {v : Value} (h : aload P t p H = some z) (I : Inv w F A m H) (hp : RV w F A m p v) :
    ∃ r, (Instr.loadAt t v).run P w = .ok r w ∧ RV w F A m z r := by
  unfold aload aloadR at h
  split at h
  · rename_i b sz i j
    split at h <;> try (cases h; done)
    rename_i blk hb
    split at h <;> try (cases h; done)
    rename_i hsz
    subst hsz
    split at h <;> try (cases h; done)
    rename_i row hrow
    cases hp with
    | ptr b sz i j hA =>
      obtain ⟨c, hc, hr⟩ := I.blk b blk hb
      have hex : ∀ k a, row[k]? = some a → ∃ v, c[i * blk.sz + k]? = some v ∧ v.oneCell' = true ∧ RV w F A m a v := fun k a ha => hr.cell i row k a hrow ha
      obtain ⟨r, h1, h2⟩ := readRow_sound (t := t) (w := w) (F := F) (A := A) (m := m) h (m b) (i * blk.sz) (fun k => (c[i * blk.sz + k]?).getD undef)
        (fun k a ha => by
          obtain ⟨v, hv, _, _⟩ := hex k a ha
          rw [cell_of_row w (m b) _ c blk.e (0, 0) hc, hv]; rfl)
        (fun k a ha => by
          obtain ⟨v, hv, _, hx⟩ := hex k a ha
          rw [hv]; exact hx)
      exact ⟨r, by simp [Instr.loadAt, Instr.sureAddr, h1], h2⟩
  · rename_i sz rows i j
    split at h <;> try (cases h; done)
    rename_i row hrow
    cases hp with
    | rptr sz rows i j cb co val hF hb hr hfl hv hrv =>
      obtain ⟨r, h1, h2⟩ := readRow_sound (t := t) (w := w) (F := F) (A := A) (m := m) h cb (co + i * sz) (fun k => val i k)
        (fun k a ha => by rw [Nat.add_assoc]; exact (hv i row k a hrow ha).1) (fun k a ha => hrv i row k a hrow ha)
      rw [Nat.add_assoc] at h1
      exact ⟨r, by simp [Instr.loadAt, Instr.sureAddr, h1], h2⟩
  · cases h
theorem length_setCells : ∀ (cs row : List AV) (j : Nat), (setCells row j cs).length = row.length
  | [], _, _ => rfl
  | c :: cs, row, j => by simp [setCells, length_setCells cs]
theorem getElem?_setCells : ∀ (cs row : List AV) (j k : Nat), j + cs.length ≤ row.length → (setCells row j cs)[k]? = if j ≤ k ∧ k < j + cs.length then cs[k - j]? else row[k]?
  | [], row, j, k, h => by
    simp only [setCells, List.length_nil, Nat.add_zero]
    rw [if_neg (by omega)]
  | c :: cs, row, j, k, h => by
    simp only [List.length_cons] at h
    simp only [setCells]
    rw [getElem?_setCells cs (row.set j c) (j + 1) k (by simp; omega)]
    by_cases h1 : j + 1 ≤ k ∧ k < j + 1 + cs.length
    · rw [if_pos h1, if_pos (by simp only [List.length_cons]; omega)]
      obtain ⟨q, rfl⟩ : ∃ q, k = j + 1 + q := ⟨k - (j + 1), by omega⟩
      have e1 : j + 1 + q - (j + 1) = q := by omega
      have e2 : j + 1 + q - j = q + 1 := by omega
      rw [e1, e2, List.getElem?_cons_succ]
    · rw [if_neg h1]
      by_cases h2 : k = j
      · subst h2
        rw [if_pos (by simp only [List.length_cons]; omega), Nat.sub_self, List.getElem?_set]
        simp; omega
      · rw [if_neg (by simp only [List.length_cons]; omega), List.getElem?_set, if_neg (fun e => h2 e.symm)]
theorem mem_setCells : ∀ (cs row : List AV) (j : Nat) (a : AV), a ∈ setCells row j cs → a ∈ row ∨ a ∈ cs
  | [], _, _, _, h => .inl h
  | c :: cs, row, j, a, h => by
    rcases mem_setCells cs _ _ a h with h | h
    · rcases List.mem_or_eq_of_mem_set h with h | rfl
      · exact .inl h
      · exact .inr (by simp)
    · exact .inr (by simp [h])
theorem setRow_sound {b : Nat} {blk blk' : Blk} {c : Array Value} {c' : Array Value} (he : blk'.e = blk.e) (I : Inv w F A m H) (hb : H.get b = some blk) (hc : w.heap[m b]? = some (.cells c blk.e (0, 0)))
    (hs : c'.size = c.size) (hr : RRows w F A m blk' c') :
    Inv (w.setRow (m b) c') F A m (H.set b (some blk')) ∧ Evo w F A m H (w.setRow (m b) c') F A m (H.set b (some blk')) := by
  have hnew : (w.setRow (m b) c').heap[m b]? = some (.cells c' blk.e (0, 0)) := setRow_heap w (m b) c c' blk.e (0, 0) hc
  have hoth : ∀ k, k ≠ m b → (w.setRow (m b) c').heap[k]? = w.heap[k]? := fun k hk => setRow_other w (m b) k c' (by simpa using hk)
  have hmono : ∀ {a : AV} {v : Value}, RV w F A m a v → RV (w.setRow (m b) c') F A m a v := fun h =>
    h.mono (by simp) (fun cb _ => by
      by_cases e : cb = m b
      · subst e; rw [shape_of_cells hnew, shape_of_cells hc, hs]
      · exact shape?_of_heap (hoth cb e)) (fun cb _ hF => hoth cb fun e => hF (e ▸ (I.own b blk hb).2)) (fun _ _ h => h) (fun _ h => ⟨h, rfl⟩)
  refine ⟨⟨?_, ?_, ?_, ?_⟩, ⟨rfl, rfl, rfl, by simp, ?_, ?_, fun _ h => .inl h, fun _ _ h _ => h, fun _ h => ⟨h, rfl⟩, ?_⟩⟩
  · intro b' blk2 hb'
    rw [AHeap.get_set] at hb'
    split at hb'
    · rename_i e; subst e; exact I.own _ blk hb
    · exact I.own _ _ hb'
  · intro b' blk2 hb'
    rw [AHeap.get_set] at hb'
    split at hb'
    · rename_i e
      subst e
      simp only [Option.some.injEq] at hb'
      subst hb'
      exact ⟨c', by rw [he]; exact hnew, hr.fits, hr.wide, hr.flat, fun i row j a h1 h2 => let ⟨v, q1, q2, q3⟩ := hr.cell i row j a h1 h2; ⟨v, q1, q2, hmono q3⟩⟩
    · rename_i e
      obtain ⟨c2, h2, hr2⟩ := I.blk b' blk2 hb'
      have hne : m b' ≠ m b := fun e' => e (I.inj b' b blk2 blk hb' hb e')
      exact ⟨c2, by rw [hoth _ hne]; exact h2, hr2.fits, hr2.wide, hr2.flat, fun i row j a h1 h2 => let ⟨v, q1, q2, q3⟩ := hr2.cell i row j a h1 h2; ⟨v, q1, q2, hmono q3⟩⟩
  · intro b1 b2 x y h1 h2 he
    rw [AHeap.get_set] at h1 h2
    have g : ∀ b' z, (if b' = b then some blk' else H.get b') = some z → ∃ z', H.get b' = some z' := by
      intro b' z hz
      split at hz
      · rename_i e; subst e; exact ⟨_, hb⟩
      · exact ⟨_, hz⟩
    obtain ⟨x', h1'⟩ := g _ _ h1
    obtain ⟨y', h2'⟩ := g _ _ h2
    exact I.inj _ _ _ _ h1' h2' he
  · intro cb hcb; simpa using I.bound cb hcb
  · intro cb hcb
    by_cases e : cb = m b
    · subst e; rw [shape_of_cells hnew, shape_of_cells hc, hs]
    · exact shape?_of_heap (hoth cb e)
  · intro cb _ hn
    exact hoth cb fun e => hn b blk hb e.symm
  · intro b' blk2 hb'
    rw [AHeap.get_set] at hb'
    split at hb'
    · rename_i e; subst e; exact .inl ⟨_, _, hb, rfl⟩
    · exact .inl ⟨_, _, hb', rfl⟩
theorem astore_sound {t : TypeId} {p x : AV} {v u : Value} {H' : AHeap} (h : astore P t p x H = some H') (I : Inv w F A m H) (hp : RV w F A m p v) (hx : RV w F A m x u) :
    ∃ w', (Instr.storeAt t v u).run P w = .ok () w' ∧ Inv w' F A m H' ∧ Evo w F A m H w' F A m H' := by
  unfold astore astoreR at h
  split at h <;> try (cases h; done)
  rename_i b sz i j
  split at h <;> try (cases h; done)
  rename_i blk cs n hb hcs hn
  split at h <;> try (cases h; done)
  rename_i hok
  obtain ⟨hsz, hlen, hall⟩ := hok
  subst hsz hlen
  split at h <;> try (cases h; done)
  rename_i row hrow
  split at h <;> try (cases h; done)
  rename_i hfit
  simp only [Option.some.injEq] at h
  subst h
  cases hp with
  | ptr b sz i j hA =>
    obtain ⟨c, hc, hr⟩ := I.blk b blk hb
    have hrl : row.length = blk.sz := hr.wide row (List.mem_of_getElem? hrow)
    have hi : i < blk.rows.length := (List.getElem?_eq_some_iff.1 hrow).1
    have hcv := cells_sound hcs hx
    have hone : ∀ y ∈ u.cells.toList, y.oneCell' = true := by
      intro y hy
      obtain ⟨k, hk⟩ := List.mem_iff_getElem?.1 hy
      have hk' : k < cs.length := by rw [hcv.1]; exact (List.getElem?_eq_some_iff.1 hk).1
      have hmem : cs[k] ∈ cs := List.getElem_mem hk'
      exact isCell_one (List.all_eq_true.1 hall _ hmem) (hcv.2 k cs[k] y (by simp [hk']) hk)
    have hin : i * blk.sz + blk.sz ≤ blk.rows.length * blk.sz := by
      have := Nat.mul_le_mul_right blk.sz (show i + 1 ≤ blk.rows.length from hi)
      rwa [Nat.add_mul, Nat.one_mul] at this
    have hul : u.cells.toList.length = cs.length := hcv.1.symm
    have hfits : i * blk.sz + j + u.cells.toList.length ≤ c.size := by have := hr.fits; omega
    have hst := run_storeCells_at P (m b) (i * blk.sz + j) blk.e u.cells.toList 0 c w hc (by simpa using hfits) hone
    simp only [Nat.add_zero] at hst
    have hsz' : u.cells.size = cs.length := by simpa using hul
    obtain ⟨q1, q2⟩ := setRow_sound (blk := blk) (blk' := { e := blk.e, sz := blk.sz, flat := blk.flat && cs.all AV.flat, rows := blk.rows.set i (setCells row j cs) }) (c' := (c.toList.take (i * blk.sz + j) ++ u.cells.toList ++ c.toList.drop (i * blk.sz + j + u.cells.toList.length)).toArray) rfl I hb hc
      (by simp only [List.size_toArray, List.length_append, List.length_take, List.length_drop, Array.length_toList]; simp only [Array.length_toList] at hfits; omega)
      ⟨by simp only [List.length_set, List.size_toArray, List.length_append, List.length_take, List.length_drop, Array.length_toList]; simp only [Array.length_toList] at hfits; have := hr.fits; omega,
       fun row' hm => by
         rcases List.mem_or_eq_of_mem_set hm with hm | rfl
         · exact hr.wide row' hm
         · rw [length_setCells, hrl],
       fun hff row' hm a ha => by
         rw [Bool.and_eq_true] at hff
         rcases List.mem_or_eq_of_mem_set hm with hm | rfl
         · exact hr.flat hff.1 row' hm a ha
         · rcases mem_setCells cs row j a ha with h | h
           · exact hr.flat hff.1 row (List.mem_of_getElem? hrow) a h
           · exact List.all_eq_true.1 hff.2 a h,
       fun i' row' j' a h1 h2 => by
         have key : ∀ q, (c.toList.take (i * blk.sz + j) ++ u.cells.toList ++ c.toList.drop (i * blk.sz + j + u.cells.toList.length)).toArray[q]? =
             if i * blk.sz + j ≤ q ∧ q < i * blk.sz + j + cs.length then u.cells.toList[q - (i * blk.sz + j)]? else c[q]? := by
           intro q
           have hmin : min (i * blk.sz + j) c.size = i * blk.sz + j := by simp only [Array.length_toList] at hfits; omega
           simp only [List.getElem?_toArray, List.getElem?_append, List.length_append, List.length_take, Array.length_toList, hmin, List.getElem?_take, List.getElem?_drop, hsz']
           by_cases h1 : q < i * blk.sz + j
           · rw [if_pos (by omega), if_pos h1, if_pos h1, if_neg (by omega)]; simp
           · by_cases h2 : q < i * blk.sz + j + cs.length
             · rw [if_pos h2, if_neg h1, if_pos (by omega)]
             · rw [if_neg h2, if_neg (by omega)]
               have : i * blk.sz + j + cs.length + (q - (i * blk.sz + j + cs.length)) = q := by omega
               rw [this]; simp
         dsimp only at h1 ⊢
         rw [List.getElem?_set] at h1
         split at h1
         · rename_i e
           subst e
           simp only [if_pos hi, Option.some.injEq] at h1
           subst h1
           rw [getElem?_setCells cs row j j' (by omega)] at h2
           rw [key]
           split at h2
           · rename_i hj
             rw [if_pos (by omega)]
             have e : i * blk.sz + j' - (i * blk.sz + j) = j' - j := by omega
             rw [e]
             have hk : j' - j < u.cells.toList.length := by omega
             refine ⟨u.cells.toList[j' - j], by simp [hk], hone _ (List.getElem_mem hk), hcv.2 _ a _ h2 (by simp [hk])⟩
           · rename_i hj
             rw [if_neg (by omega)]
             exact hr.cell i row j' a hrow h2
         · rename_i hne
           rw [key]
           have hj' : j' < blk.sz := by
             have hw := hr.wide row' (List.mem_of_getElem? h1)
             have := (List.getElem?_eq_some_iff.1 h2).1
             omega
           rw [if_neg ?_]
           · exact hr.cell i' row' j' a h1 h2
           · intro hq
             rcases Nat.lt_or_ge i i' with hlt | hge
             · have := Nat.mul_le_mul_right blk.sz (show i + 1 ≤ i' from hlt)
               rw [Nat.add_mul, Nat.one_mul] at this
               omega
             · have hlt : i' < i := by omega
               have := Nat.mul_le_mul_right blk.sz (show i' + 1 ≤ i from hlt)
               rw [Nat.add_mul, Nat.one_mul] at this
               omega⟩
    exact ⟨_, by simp [Instr.storeAt, Instr.sureAddr, storeVar, run_sizeOf hn, hsz', hst], q1, q2⟩
end
end Go.Abs
end
section
set_option linter.unusedSimpArgs false
set_option linter.unusedVariables false
namespace Go.Abs
structure After (w : World) (F A : Nat → Prop) (m : Nat → Nat) (H : AHeap) (A' : Nat → Prop) (H' : AHeap) (z : AV) (r : Value) (w' : World) : Prop where
  ex : ∃ F' m', Inv w' F' A' m' H' ∧ RV w' F' A' m' z r ∧ Evo w F A m H w' F' A' m' H'
section
variable {P : Program} {w : World} {F A : Nat → Prop} {m : Nat → Nat} {H : AHeap}
def withB (A : Nat → Prop) (b : Nat) : Nat → Prop := fun x => A x ∨ x = b
def withM (m : Nat → Nat) (b g : Nat) : Nat → Nat := fun x => if x = b then g else m x
theorem alloc_mono {o : Obj} {a : AV} {v : Value} (I : Inv w F A m H) (hn : ¬ A H.next) (h : RV w F A m a v) :
    RV (w.alloc o) (withB F w.heap.size) (withB A H.next) (withM m H.next w.heap.size) a v :=
  h.mono (by simp) (fun cb hcb => shape?_of_heap (RowKit.Below.heap_alloc w o cb hcb)) (fun cb hcb _ => RowKit.Below.heap_alloc w o cb hcb)
    (fun cb hcb hF => by rcases hF with h | h; exact h; omega)
    (fun b hb => ⟨.inl hb, by unfold withM; rw [if_neg (fun e : b = H.next => hn (e ▸ hb))]⟩)
theorem alloc_sound {blk : Blk} {c : Array Value} (I : Inv w F A m H) (hn : ¬ A H.next) (hr : RRows w F A m blk c) :
    Inv (w.alloc (.cells c blk.e)) (withB F w.heap.size) (withB A H.next) (withM m H.next w.heap.size) (H.push blk) ∧
    Evo w F A m H (w.alloc (.cells c blk.e)) (withB F w.heap.size) (withB A H.next) (withM m H.next w.heap.size) (H.push blk) := by
  have hnew := heap_alloc_new w (.cells c blk.e)
  have hold : ∀ k, k < w.heap.size → (w.alloc (.cells c blk.e)).heap[k]? = w.heap[k]? := fun k hk => RowKit.Below.heap_alloc w _ k hk
  have hnone : H.get H.next = none := by
    cases h : H.get H.next with
    | none => rfl
    | some x => exact absurd (I.own _ _ h).1 hn
  have hlt : ∀ b x, H.get b = some x → m b < w.heap.size ∧ b ≠ H.next := fun b x hb =>
    ⟨I.bound _ (I.own b x hb).2, fun e => by subst e; rw [hnone] at hb; cases hb⟩
  have hm : ∀ b, b ≠ H.next → withM m H.next w.heap.size b = m b := fun b hb => if_neg hb
  refine ⟨⟨?_, ?_, ?_, ?_⟩, ⟨rfl, rfl, rfl, by simp, fun cb hcb => shape?_of_heap (hold cb hcb), fun cb hcb _ => hold cb hcb, ?_, fun _ _ h _ => .inl h, fun b hb => ⟨.inl hb, hm b fun e => hn (e ▸ hb)⟩, ?_⟩⟩
  · intro b x hb
    rw [AHeap.get_push] at hb
    split at hb
    · rename_i e; exact ⟨.inr e, .inr (by simp [withM, e])⟩
    · rename_i e; rw [hm b e]; exact ⟨.inl (I.own b x hb).1, .inl (I.own b x hb).2⟩
  · intro b x hb
    rw [AHeap.get_push] at hb
    split at hb
    · rename_i e
      simp only [Option.some.injEq] at hb
      subst hb e
      refine ⟨c, by simpa [withM] using hnew, hr.fits, hr.wide, hr.flat, fun i row j a h1 h2 => ?_⟩
      obtain ⟨v, q1, q2, q3⟩ := hr.cell i row j a h1 h2
      exact ⟨v, q1, q2, alloc_mono I hn q3⟩
    · rename_i e
      obtain ⟨c2, h2, hr2⟩ := I.blk b x hb
      refine ⟨c2, by rw [hm b e, hold _ (hlt b x hb).1]; exact h2, hr2.fits, hr2.wide, hr2.flat, fun i row j a h1 h2 => ?_⟩
      obtain ⟨v, q1, q2, q3⟩ := hr2.cell i row j a h1 h2
      exact ⟨v, q1, q2, alloc_mono I hn q3⟩
  · intro b1 b2 x y h1 h2 he
    rw [AHeap.get_push] at h1 h2
    split at h1
    · rename_i e1
      split at h2
      · rename_i e2; rw [e1, e2]
      · rename_i e2
        rw [hm b2 e2, e1] at he
        simp only [withM, if_true] at he
        have := (hlt b2 y h2).1
        omega
    · rename_i e1
      split at h2
      · rename_i e2
        rw [hm b1 e1, e2] at he
        simp only [withM, if_true] at he
        have := (hlt b1 x h1).1
        omega
      · rename_i e2
        rw [hm b1 e1, hm b2 e2] at he
        exact I.inj _ _ _ _ h1 h2 he
  · intro cb hcb
    rcases hcb with h | h
    · have := I.bound cb h; simp; omega
    · simp; omega
  · intro cb hcb
    rcases hcb with h | h
    · exact .inl h
    · exact .inr (by omega)
  · intro b x hb
    rw [AHeap.get_push] at hb
    split at hb
    · rename_i e; exact .inr (by simp [withM, e])
    · rename_i e; exact .inl ⟨b, x, hb, (hm b e).symm⟩
theorem abox_sound {e : TypeId} {x z : AV} {u : Value} {H' : AHeap} (h : abox e x H = some (z, H')) (I : Inv w F A m H) (hn : ¬ A H.next) (hx : RV w F A m x u) :
    ∃ r w', (Instr.box e u).run P w = .ok r w' ∧ After w F A m H (withB A H.next) H' z r w' := by
  unfold abox at h
  split at h <;> try (cases h; done)
  rename_i cs hcs
  split at h <;> try (cases h; done)
  rename_i hall
  simp only [Option.some.injEq, Prod.mk.injEq] at h
  obtain ⟨rfl, rfl⟩ := h
  have hcv := cells_sound hcs hx
  have hsz : u.cells.size = cs.length := by simpa using hcv.1.symm
  obtain ⟨q1, q2⟩ := alloc_sound (blk := { e, sz := cs.length, flat := cs.all AV.flat, rows := [cs] }) (c := u.cells) I hn
    ⟨by simp [hsz], by simp, fun hff row hrow a ha => by
      simp at hrow; subst hrow
      exact List.all_eq_true.1 hff a ha, fun i row j a h1 h2 => by
      cases i with
      | zero =>
        simp at h1
        subst h1
        have hj : j < u.cells.size := by rw [hsz]; exact (List.getElem?_eq_some_iff.1 h2).1
        have hmem : a ∈ cs := List.mem_of_getElem? h2
        have hrv := hcv.2 j a u.cells[j] h2 (by simp [hj])
        exact ⟨u.cells[j], by simp [hj], isCell_one (List.all_eq_true.1 hall _ hmem) hrv, hrv⟩
      | succ i => simp at h1⟩
  refine ⟨.pointer (some ⟨w.heap.size, 0, none⟩), w.alloc (.cells u.cells e), rfl, ⟨_, _, q1, ?_, q2⟩⟩
  have := RV.ptr (w := w.alloc (.cells u.cells e)) (F := withB F w.heap.size) (A := withB A H.next) (m := withM m H.next w.heap.size) H.next cs.length 0 0 (.inr rfl)
  simpa [withM] using this
theorem aalloc_sound {e : TypeId} {z : AV} {H' : AHeap} (h : aalloc P e H = some (z, H')) (I : Inv w F A m H) (hn : ¬ A H.next) :
    ∃ r w', (Instr.alloc e true (.tuple #[])).run P w = .ok r w' ∧ After w F A m H (withB A H.next) H' z r w' := by
  rw [aalloc_old] at h
  split at h <;> try (cases h; done)
  rename_i i hi
  split at h <;> try (cases h; done)
  rename_i zv hz
  obtain ⟨r, w', h1, h2⟩ := abox_sound (P := P) h I hn (rv_ofConst zv)
  refine ⟨r, w', ?_, h2⟩
  simp only [Instr.box, Sem.run_bind] at h1
  simp only [Instr.alloc, Sem.run_bind, zeroValue, typeInfo, run_program, Result.andThen_ok, hi, hz, Sem.run_pure]
  exact h1
theorem new_slice {blk : Blk} {c : Array Value} {len cap : Nat} (I : Inv w F A m H) (hn : ¬ A H.next) (hr : RRows w F A m blk c) (hl : len ≤ cap) (hm : cap ≤ maxLen) (hc : c.size = cap * blk.sz) :
    After w F A m H (withB A H.next) (H.push blk) (.sl H.next blk.sz 0 len) (.slice (some ⟨w.heap.size, 0, none⟩) len cap) (w.alloc (.cells c blk.e)) := by
  obtain ⟨q1, q2⟩ := alloc_sound I hn hr
  refine ⟨_, _, q1, ?_, q2⟩
  have := RV.sl (w := w.alloc (.cells c blk.e)) (F := withB F w.heap.size) (A := withB A H.next) (m := withM m H.next w.heap.size) H.next blk.sz 0 len cap blk.e (.inr rfl) hl hm
    (by simp only [withM, if_true]; rw [shape_of_cells (heap_alloc_new w _), hc]; simp)
  simpa [withM] using this
theorem length_reps (zero : List AV) : ∀ n, (reps zero n).length = n * zero.length
  | 0 => by simp [reps]
  | n + 1 => by simp [reps, length_reps zero n, Nat.add_mul, Nat.add_comm]
theorem getElem?_reps (zero : List AV) (hz : 0 < zero.length) : ∀ (n i : Nat), i < n * zero.length → (reps zero n)[i]? = zero[i % zero.length]?
  | 0, i, h => by simp at h
  | n + 1, i, h => by
    simp only [reps, List.getElem?_append]
    by_cases hi : i < zero.length
    · rw [if_pos hi, Nat.mod_eq_of_lt hi]
    · rw [if_neg hi, getElem?_reps zero hz n (i - zero.length) (by rw [Nat.add_mul] at h; omega)]
      congr 1
      rw [Nat.mod_eq_sub_mod (by omega : i ≥ zero.length)]
theorem length_chunks (sz : Nat) : ∀ (n : Nat) (cs : List AV), (chunks sz n cs).length = n
  | 0, _ => rfl
  | n + 1, cs => by simp [chunks, length_chunks sz n]
theorem getElem?_chunks (sz : Nat) : ∀ (n : Nat) (cs : List AV) (i : Nat), i < n → (chunks sz n cs)[i]? = some ((cs.drop (i * sz)).take sz)
  | 0, _, _, h => by omega
  | n + 1, cs, 0, _ => by simp [chunks]
  | n + 1, cs, i + 1, h => by
    simp only [chunks, List.getElem?_cons_succ]
    rw [getElem?_chunks sz n _ i (by omega), List.drop_drop]
    congr 3
    rw [Nat.add_mul, Nat.one_mul, Nat.add_comm]
theorem chunks_rows {e sz n : Nat} {cs : List AV} {c : Array Value} (hl : cs.length = n * sz) (hall : cs.all AV.isCell = true) (hc : RL w F A m cs c.toList) :
    RRows w F A m { e, sz, flat := cs.all AV.flat, rows := chunks sz n cs } c := by
  have hcs : c.size = n * sz := by have := hc.1; simp at this; omega
  have hi : ∀ (i : Nat) (row : List AV), (chunks sz n cs)[i]? = some row → i < n ∧ row = (cs.drop (i * sz)).take sz := fun i row h => by
    have := (List.getElem?_eq_some_iff.1 h).1
    rw [length_chunks] at this
    rw [getElem?_chunks sz n cs i this] at h
    exact ⟨this, by simpa using h.symm⟩
  have hle : ∀ i, i < n → i * sz + sz ≤ n * sz := fun i h => by
    have := Nat.mul_le_mul_right sz (show i + 1 ≤ n from h)
    rwa [Nat.add_mul, Nat.one_mul] at this
  refine ⟨by simp [length_chunks, hcs], fun row hrow => ?_, fun hff row hrow a ha => ?_, fun i row j a h1 h2 => ?_⟩
  · obtain ⟨i, h⟩ := List.mem_iff_getElem?.1 hrow
    obtain ⟨h1, rfl⟩ := hi i row h
    have := hle i h1
    simp; omega
  · obtain ⟨i, h⟩ := List.mem_iff_getElem?.1 hrow
    obtain ⟨h1, rfl⟩ := hi i row h
    exact List.all_eq_true.1 hff a (List.mem_of_mem_drop (List.mem_of_mem_take ha))
  · obtain ⟨h3, rfl⟩ := hi i row h1
    rw [List.getElem?_take] at h2
    split at h2
    · rename_i hj
      rw [List.getElem?_drop] at h2
      have := hle i h3
      have hlt : i * sz + j < c.size := by omega
      have hrv := hc.2 (i * sz + j) a c[i * sz + j] h2 (by simp [hlt])
      exact ⟨c[i * sz + j], by simp [hlt], isCell_one (List.all_eq_true.1 hall _ (List.mem_of_getElem? h2)) hrv, hrv⟩
    · cases h2
theorem length_afill (place : Nat → Option (Nat × Nat)) : ∀ (parts : List (Nat × AV)) (cs out : List AV), afill place cs parts = some out → out.length = cs.length
  | [], cs, out, h => by simp only [afill, Option.some.injEq] at h; rw [← h]
  | (i, x) :: rest, cs, out, h => by
    simp only [afill] at h
    split at h
    · split at h
      · cases h
      · rw [length_afill place rest _ out h]
        have key : ∀ (l : List (AV × Nat)) (off : Nat) (cs : List AV), (l.foldl (fun (l : List AV) (p : AV × Nat) => l.set (off + p.2) p.1) cs).length = cs.length := by
          intro l off
          induction l with
          | nil => intro cs; rfl
          | cons p l ih => intro cs; simp only [List.foldl_cons, ih, List.length_set]
        exact key _ _ _
    · cases h
theorem abuildSlice_sound {t : TypeId} {len : Nat} {parts : List (Nat × AV)} {parts' : Array (Nat × Value)} {z : AV} {H' : AHeap} (h : abuildSlice P t len parts H = some (z, H')) (I : Inv w F A m H) (hn : ¬ A H.next)
    (hl : parts.length = parts'.size) (hp : ∀ (i : Nat) (p : Nat × AV) (q : Nat × Value), parts[i]? = some p → parts'[i]? = some q → p.1 = q.1 ∧ RV w F A m p.2 q.2) :
    ∃ r w', (Instr.buildSlice t len parts').run P w = .ok r w' ∧ After w F A m H (withB A H.next) H' z r w' := by
  unfold abuildSlice abuildSliceR at h
  split at h <;> try (cases h; done)
  rename_i k hk
  obtain ⟨i, zv, hu, hi, hz, hsz, hpos, k1, k2, k3⟩ := ekOf_some hk
  obtain ⟨e, ksz, kby, kz⟩ := k
  simp only at hu hi k1 k2 k3 h
  subst k1 k2 k3
  split at h <;> try (cases h; done)
  rename_i hbig
  split at h <;> try (cases h; done)
  rename_i cs hf
  split at h <;> try (cases h; done)
  rename_i hall
  simp only [Option.some.injEq, Prod.mk.injEq] at h
  obtain ⟨rfl, rfl⟩ := h
  have hzl : (zv.cells.toList.map ofCell).length = i.size := by simpa using hsz
  have hcl := length_afill _ _ _ _ hf
  rw [length_reps, hzl] at hcl
  have hbase : RL w F A m (reps (zv.cells.toList.map ofCell) len) ((Array.range (len * i.size)).map (zv.cells[· % zv.cells.size]!)).toList := by
    refine ⟨by simp [length_reps, hsz], fun k a v h1 h2 => ?_⟩
    have hk : k < len * i.size := by
      have := (List.getElem?_eq_some_iff.1 h1).1
      rwa [length_reps, hzl] at this
    rw [getElem?_reps _ (by rw [hzl]; exact hpos) len k (by rw [hzl]; exact hk), hzl] at h1
    have hmod : k % i.size < zv.cells.size := by rw [hsz]; exact Nat.mod_lt _ hpos
    have hv : v = zv.cells[k % i.size] := by
      simp [hk, hsz] at h2
      rw [← h2]
      rw [getElem!_pos zv.cells (k % i.size) hmod]
    rw [hv]
    exact rv_list_ofCell zv.cells (k % i.size) a _ h1 (by simp [hmod])
  obtain ⟨out', ho, hr⟩ := afill_sound (w := w) (F := F) (A := A) (m := m) _ parts parts'.toList _ ((Array.range (len * i.size)).map (zv.cells[· % zv.cells.size]!)) cs hf (by simpa using hl)
    (fun i p q h1 h2 => hp i p q h1 (by simpa using h2)) hbase
  have hos : out'.size = len * i.size := by have := hr.1; simp at this; omega
  have hbig' : ¬ (len * i.size > 2 ^ 24) := by omega
  have hrun : (Instr.buildSlice t len parts').run P w = .ok (.slice (some ⟨w.heap.size, 0, none⟩) len len) (w.alloc (.cells out' e)) := by
    have hsize : (sizeOf e).run P w = .ok i.size w := by simp [sizeOf, typeInfo, hi]
    unfold Instr.buildSlice
    by_cases h0 : len * i.size = 0
    · have e0 : ∀ f : Nat → Value, (Array.range (len * i.size)).map f = #[] := fun f => by rw [h0]; simp
      rw [e0] at ho
      simp only [Sem.run_bind, run_underlying hu, Result.andThen_ok, hsize, if_neg hbig', if_pos h0, Sem.run_pure, e0, ho]
      rfl
    · have hzv : (zeroValue e).run P w = .ok zv w := by simp [zeroValue, typeInfo, hi, hz]
      simp only [Sem.run_bind, run_underlying hu, Result.andThen_ok, hsize, if_neg hbig', if_neg h0, hzv, Sem.run_pure, ho]
      rfl
  have hmax : len ≤ maxLen := by
    have : len ≤ len * i.size := Nat.le_mul_of_pos_right _ hpos
    simp only [maxLen]; omega
  exact ⟨_, _, hrun, new_slice (blk := { e, sz := i.size, flat := cs.all AV.flat, rows := chunks i.size len cs }) I hn (chunks_rows hcl hall hr) (Nat.le_refl _) hmax hos⟩
theorem amake_sound {t : TypeId} {l c z : AV} {u v : Value} {H' : AHeap} (h : amake P t l c H = some (z, H')) (I : Inv w F A m H) (hn : ¬ A H.next) (hl : RV w F A m l u) (hc : RV w F A m c v) :
    ∃ r w', (Instr.makeSlice t u v).run P w = .ok r w' ∧ After w F A m H (withB A H.next) H' z r w' := by
  unfold amake amakeR at h
  split at h <;> try (cases h; done)
  rename_i kk kl n kc k hkk
  cases hl; cases hc
  obtain ⟨i, zv, hu, hi, hz, hsz, hpos, k1, k2, k3⟩ := ekOf_some hkk
  obtain ⟨e, ksz, kby, kz⟩ := kk
  simp only at hu hi k1 k2 k3 h
  subst k1 k2 k3
  split at h <;> try (cases h; done)
  rename_i hok
  obtain ⟨h0, hnk, hby, hbp, hall⟩ := hok
  simp only [Option.some.injEq, Prod.mk.injEq] at h
  obtain ⟨rfl, rfl⟩ := h
  have hk : k ≤ 140737488355328 := by
    have h1 : k ≤ (i.bytes : Int) * k := by
      have : (1 : Int) * k ≤ (i.bytes : Int) * k := Int.mul_le_mul_of_nonneg_right (by omega) (by omega)
      omega
    omega
  have hrun := run_make (P := P) w t e i zv hu hi hz kl kc n k h0 hnk (by omega) (by omega)
  refine ⟨_, _, hrun, new_slice (blk := { e, sz := i.size, flat := (zv.cells.toList.map ofCell).all AV.flat, rows := List.replicate n.toNat (zv.cells.toList.map ofCell) }) I hn ⟨?_, ?_, ?_, ?_⟩ (by omega) (by simp only [maxLen]; omega) (by simp [size_madeCells])⟩
  · simp only [List.length_replicate, size_madeCells]
    exact Nat.mul_le_mul_right _ (by omega)
  · intro row hrow
    rw [List.eq_of_mem_replicate hrow]
    simpa using hsz
  · intro hff row hrow a ha
    rw [List.eq_of_mem_replicate hrow] at ha
    exact List.all_eq_true.1 hff a ha
  · intro q row j a h1 h2
    have hq : q < n.toNat := by have := (List.getElem?_eq_some_iff.1 h1).1; simpa using this
    simp [List.getElem?_replicate, hq] at h1
    subst h1
    have hj : j < i.size := by have := (List.getElem?_eq_some_iff.1 h2).1; simp at this; omega
    have hlt : q * i.size + j < k.toNat * i.size := by
      have h3 : (q + 1) * i.size ≤ k.toNat * i.size := Nat.mul_le_mul_right _ (by omega)
      rw [Nat.add_mul] at h3
      omega
    have hmod : (q * i.size + j) % zv.cells.size = j := by
      rw [hsz, Nat.add_comm, Nat.add_mul_mod_self_right, Nat.mod_eq_of_lt hj]
    have hjz : j < zv.cells.size := by omega
    have hrv : RV w F A m a zv.cells[j] := rv_list_ofCell zv.cells j a _ h2 (by simp [hjz])
    refine ⟨zv.cells[j], ?_, isCell_one (List.all_eq_true.1 hall _ (List.mem_of_getElem? h2)) hrv, hrv⟩
    simp only [madeCells, Array.getElem?_map]
    rw [show (Array.range (k.toNat * i.size))[q * i.size + j]? = some (q * i.size + j) from by simp [hlt]]
    simp only [Option.map_some, hmod]
    rw [getElem!_pos zv.cells j hjz]
end
end Go.Abs
end
section
set_option linter.unusedSimpArgs false
set_option linter.unusedVariables false
namespace Go.Abs
section
variable {P : Program} {w : World} {F A : Nat → Prop} {m : Nat → Nat} {H : AHeap}
structure Flat (w : World) (F A : Nat → Prop) (m : Nat → Nat) (sz : Nat) (rows : List (List AV)) (vs : List Value) : Prop where
  len : vs.length = rows.length * sz
  wide : ∀ row, row ∈ rows → row.length = sz
  one : ∀ u, u ∈ vs → u.oneCell' = true
  cell : ∀ (i : Nat) (row : List AV) (j : Nat) (a : AV), rows[i]? = some row → row[j]? = some a → ∃ v, vs[i * sz + j]? = some v ∧ RV w F A m a v
theorem row_le {n i sz : Nat} (h : i < n) : i * sz + sz ≤ n * sz := by
  have := Nat.mul_le_mul_right sz (show i + 1 ≤ n from h)
  rwa [Nat.add_mul, Nat.one_mul] at this
theorem source_sound {x : AV} {v : Value} {sz : Nat} {rows : List (List AV)} {fl : Bool} (h : rowsOf x sz H = some (rows, fl)) (I : Inv w F A m H) (hx : RV w F A m x v) (hsz : 0 < sz) :
    ∃ vs a cap, v = .slice a rows.length cap ∧ Flat w F A m sz rows vs ∧ (fl = true → flatRows rows) ∧ (a = none → rows = []) ∧ ∀ ad, a = some ad → ∀ (j : Nat) (u : Value), vs[j]? = some u → w.cell? (ad.add j) = some u := by
  unfold rowsOf at h
  split at h <;> try (cases h; done)
  · simp only [Option.some.injEq, Prod.mk.injEq] at h
    obtain ⟨rfl, rfl⟩ := h
    cases hx
    exact ⟨[], none, 0, rfl, ⟨by simp, by simp, by simp, by simp⟩, fun _ => by simp [flatRows], fun _ => rfl, (fun ad h => by cases h)⟩
  · simp only [Option.some.injEq, Prod.mk.injEq] at h
    obtain ⟨rfl, rfl⟩ := h
    cases hx with
    | esl s a cap => exact ⟨[], some a, cap, rfl, ⟨by simp, by simp, by simp, by simp⟩, fun _ => by simp [flatRows], fun _ => rfl, fun ad _ j u h => by simp at h⟩
  · rename_i s rws
    split at h <;> try (cases h; done)
    rename_i hs
    subst hs
    simp only [Option.some.injEq, Prod.mk.injEq] at h
    obtain ⟨rfl, rfl⟩ := h
    cases hx with
    | rsl0 s a cap h0 => exact ⟨[], a, cap, rfl, ⟨by simp, by simp, by simp, by simp⟩, fun _ => by simp [flatRows], fun _ => rfl, fun ad _ j u h => by simp at h⟩
    | rsl s rws cb co cap val hF hb hc hr hflr hv hrv =>
      have hidx : ∀ k, k < rws.length * s → ∃ row a, rws[k / s]? = some row ∧ row[k % s]? = some a := fun k hk => by
        have h1 : k / s < rws.length := Nat.div_lt_of_lt_mul (by rw [Nat.mul_comm]; exact hk)
        have h2 := hr _ (List.getElem_mem h1)
        have h3 : k % s < (rws[k / s]).length := by rw [h2]; exact Nat.mod_lt _ hsz
        exact ⟨rws[k / s], (rws[k / s])[k % s], by simp [h1], by simp [h3]⟩
      refine ⟨(List.range (rws.length * s)).map fun k => val (k / s) (k % s), some ⟨cb, co, none⟩, cap, rfl, ⟨by simp, hr, ?_, ?_⟩, fun _ => hflr, (fun h => by cases h), ?_⟩
      · intro u hu
        obtain ⟨k, hk, rfl⟩ := List.mem_map.1 hu
        obtain ⟨row, a, h1, h2⟩ := hidx k (by simpa using hk)
        exact (hv _ _ _ _ h1 h2).2
      · intro i row j a h1 h2
        have hi := (List.getElem?_eq_some_iff.1 h1).1
        have hj : j < s := by rw [← hr row (List.mem_of_getElem? h1)]; exact (List.getElem?_eq_some_iff.1 h2).1
        have hlt : i * s + j < rws.length * s := by have := row_le (sz := s) hi; omega
        refine ⟨val i j, ?_, hrv i row j a h1 h2⟩
        have e1 : (i * s + j) / s = i := by rw [Nat.mul_comm, Nat.mul_add_div hsz, Nat.div_eq_of_lt hj, Nat.add_zero]
        have e2 : (i * s + j) % s = j := by rw [Nat.mul_comm, Nat.mul_add_mod, Nat.mod_eq_of_lt hj]
        simp [hlt, e1, e2]
      · intro ad had j u hu
        simp only [Option.some.injEq] at had
        subst had
        have hj : j < rws.length * s := by have := (List.getElem?_eq_some_iff.1 hu).1; simpa using this
        simp [hj] at hu
        subst hu
        obtain ⟨row, a, h1, h2⟩ := hidx j hj
        have := (hv _ _ _ _ h1 h2).1
        rw [add_lit]
        rw [← this]
        congr 2
        rw [Nat.mul_comm, Nat.div_add_mod]
  · rename_i b s off len
    split at h <;> try (cases h; done)
    rename_i blk hb
    split at h <;> try (cases h; done)
    rename_i hok
    obtain ⟨hs, hs2, hfit⟩ := hok
    subst hs
    simp only [Option.some.injEq, Prod.mk.injEq] at h
    obtain ⟨rfl, rfl⟩ := h
    obtain ⟨c, hc, hr⟩ := I.blk b blk hb
    have hrl : ((blk.rows.drop off).take len).length = len := by simp; omega
    have hle : (off + len) * s ≤ c.size := by
      have h1 := hr.fits
      have h2 := Nat.mul_le_mul_right s hfit
      rw [hs2] at h1
      omega
    have hget : ∀ i, i < len → ((blk.rows.drop off).take len)[i]? = blk.rows[off + i]? := fun i hi => by
      rw [List.getElem?_take, if_pos hi, List.getElem?_drop]
    have hadd : (off + len) * s = off * s + len * s := Nat.add_mul _ _ _
    have hcell : ∀ k, k < len * s → ∃ u, ((c.toList.drop (off * s)).take (len * s))[k]? = some u ∧ c[off * s + k]? = some u := fun k hk => by
      have : off * s + k < c.size := by omega
      exact ⟨c[off * s + k], by rw [List.getElem?_take, if_pos hk, List.getElem?_drop]; simp [this], by simp [this]⟩
    have hidx : ∀ k, k < len * s → ∃ row a, blk.rows[off + k / s]? = some row ∧ row[k % s]? = some a := fun k hk => by
      have h0 : k / s < len := Nat.div_lt_of_lt_mul (by rw [Nat.mul_comm]; exact hk)
      have h1 : off + k / s < blk.rows.length := by omega
      have h2 := hr.wide _ (List.getElem_mem h1)
      have h3 : k % s < (blk.rows[off + k / s]).length := by rw [h2, hs2]; exact Nat.mod_lt _ hsz
      exact ⟨_, _, by simp [h1]; rfl, by simp [h3]; rfl⟩
    cases hx with
    | sl b s off len cap e hA hcap hm hs =>
      refine ⟨(c.toList.drop (off * s)).take (len * s), some ⟨m b, off * s, none⟩, cap, by rw [hrl], ⟨by rw [hrl]; simp; omega, ?_, ?_, ?_⟩, fun hff row hrow => hr.flat hff row (List.mem_of_mem_drop (List.mem_of_mem_take hrow)), (fun h => by cases h), ?_⟩
      · intro row hrow
        rw [← hs2]
        exact hr.wide row (List.mem_of_mem_drop (List.mem_of_mem_take hrow))
      · intro u hu
        obtain ⟨k, hk⟩ := List.mem_iff_getElem?.1 hu
        have hk2 : k < len * s := by have := (List.getElem?_eq_some_iff.1 hk).1; simp at this; omega
        obtain ⟨u', h1, h2⟩ := hcell k hk2
        rw [hk] at h1
        simp only [Option.some.injEq] at h1
        subst h1
        obtain ⟨row, a, h3, h4⟩ := hidx k hk2
        obtain ⟨v, q1, q2, _⟩ := hr.cell _ row _ a h3 h4
        have : (off + k / s) * blk.sz + k % s = off * s + k := by
          rw [hs2, Nat.add_mul, Nat.add_assoc, Nat.mul_comm (k / s), Nat.div_add_mod]
        rw [this, h2] at q1
        simp only [Option.some.injEq] at q1
        exact q1 ▸ q2
      · intro i row j a h1 h2
        have hi : i < len := by have := (List.getElem?_eq_some_iff.1 h1).1; omega
        rw [hget i hi] at h1
        obtain ⟨v, q1, _, q3⟩ := hr.cell _ row _ a h1 h2
        have hj : j < s := by rw [← hs2, ← hr.wide row (List.mem_of_getElem? h1)]; exact (List.getElem?_eq_some_iff.1 h2).1
        have hlt : i * s + j < len * s := by have := row_le (sz := s) hi; omega
        refine ⟨v, ?_, q3⟩
        rw [List.getElem?_take, if_pos hlt, List.getElem?_drop]
        have : off * s + (i * s + j) = (off + i) * blk.sz + j := by rw [hs2, Nat.add_mul, Nat.add_assoc]
        rw [this]
        simpa using q1
      · intro ad had j u hu
        simp only [Option.some.injEq] at had
        subst had
        have hj : j < len * s := by have := (List.getElem?_eq_some_iff.1 hu).1; simp at this; omega
        obtain ⟨u', h1, h2⟩ := hcell j hj
        rw [hu] at h1
        simp only [Option.some.injEq] at h1
        subst h1
        rw [add_lit, cell_of_row w (m b) _ c blk.e (0, 0) hc]
        exact h2
theorem Flat.rows {sz : Nat} {rows : List (List AV)} {vs : List Value} (h : Flat w F A m sz rows vs) (e : TypeId) (fl : Bool) (hfl : fl = true → flatRows rows) (rest : List Value) : RRows w F A m { e, sz, flat := fl, rows } (vs ++ rest).toArray := by
  refine ⟨by simp [h.len], h.wide, hfl, fun i row j a h1 h2 => ?_⟩
  obtain ⟨v, q1, q2⟩ := h.cell i row j a h1 h2
  have hlt := (List.getElem?_eq_some_iff.1 q1).1
  exact ⟨v, by rw [List.getElem?_toArray, List.getElem?_append, if_pos hlt]; exact q1, h.one v (List.mem_of_getElem? q1), q2⟩
theorem Flat.append {sz : Nat} {rows rows' : List (List AV)} {vs vs' : List Value} (h : Flat w F A m sz rows vs) (h' : Flat w F A m sz rows' vs') : Flat w F A m sz (rows ++ rows') (vs ++ vs') := by
  refine ⟨by simp [h.len, h'.len, Nat.add_mul], fun row hr => ?_, fun u hu => ?_, fun i row j a h1 h2 => ?_⟩
  · rcases List.mem_append.1 hr with hr | hr
    · exact h.wide row hr
    · exact h'.wide row hr
  · rcases List.mem_append.1 hu with hu | hu
    · exact h.one u hu
    · exact h'.one u hu
  · rw [List.getElem?_append] at h1
    split at h1
    · obtain ⟨v, q1, q2⟩ := h.cell i row j a h1 h2
      have hlt := (List.getElem?_eq_some_iff.1 q1).1
      exact ⟨v, by rw [List.getElem?_append, if_pos hlt]; exact q1, q2⟩
    · rename_i hi
      obtain ⟨v, q1, q2⟩ := h'.cell _ row j a h1 h2
      refine ⟨v, ?_, q2⟩
      have hle := Nat.mul_le_mul_right sz (show rows.length ≤ i by omega)
      rw [List.getElem?_append, if_neg (by rw [h.len]; omega), h.len, ← q1]
      congr 1
      rw [Nat.sub_mul]
      omega
theorem Flat.drew {sz : Nat} {rows : List (List AV)} {vs : List Value} {n : Nat} (h : Flat w F A m sz rows vs) : Flat { w with drawn := n } F A m sz rows vs :=
  ⟨h.len, h.wide, h.one, fun i row j a h1 h2 => let ⟨v, q1, q2⟩ := h.cell i row j a h1 h2; ⟨v, q1, q2.drew⟩⟩
theorem Inv.kill (I : Inv w F A m H) (b : Nat) : Inv w F A m (H.set b none) where
  own := fun b' x h => by
    rw [AHeap.get_set] at h
    split at h
    · cases h
    · exact I.own b' x h
  blk := fun b' x h => by
    rw [AHeap.get_set] at h
    split at h
    · cases h
    · exact I.blk b' x h
  inj := fun b1 b2 x y h1 h2 => by
    rw [AHeap.get_set] at h1 h2
    split at h1
    · cases h1
    · split at h2
      · cases h2
      · exact I.inj b1 b2 x y h1 h2
  bound := I.bound
theorem Evo.kill {b : Nat} : Evo w F A m H w F A m (H.set b none) where
  os := rfl
  tape := rfl
  output := rfl
  size := Nat.le_refl _
  shape := fun _ _ => rfl
  same := fun _ _ _ => rfl
  forb := fun _ h => .inl h
  keep := fun _ _ h _ => h
  ext := fun _ h => ⟨h, rfl⟩
  owns := fun b' x h => by
    rw [AHeap.get_set] at h
    split at h
    · cases h
    · exact .inl ⟨_, _, h, rfl⟩
theorem renumber {b : Nat} {blk : Blk} (I : Inv w F A m H) (hn : ¬ A H.next) (hb : H.get b = some blk) :
    Inv w F (withB A H.next) (withM m H.next (m b)) ((H.set b none).push blk) ∧ Evo w F A m H w F (withB A H.next) (withM m H.next (m b)) ((H.set b none).push blk) := by
  have hnone : H.get H.next = none := by
    cases h : H.get H.next with
    | none => rfl
    | some x => exact absurd (I.own _ _ h).1 hn
  have hbn : b ≠ H.next := fun e => by subst e; rw [hnone] at hb; cases hb
  have hm : ∀ x, x ≠ H.next → withM m H.next (m b) x = m x := fun x hx => if_neg hx
  have hmn : withM m H.next (m b) H.next = m b := if_pos rfl
  have hmono : ∀ {a : AV} {v : Value}, RV w F A m a v → RV w F (withB A H.next) (withM m H.next (m b)) a v := fun h =>
    h.mono (Nat.le_refl _) (fun _ _ => rfl) (fun _ _ _ => rfl) (fun _ _ h => h) (fun x hx => ⟨.inl hx, hm x fun e => hn (e ▸ hx)⟩)
  have hget : ∀ x y, ((H.set b none).push blk).get x = some y → (x = H.next ∧ y = blk) ∨ (x ≠ H.next ∧ x ≠ b ∧ H.get x = some y) := fun x y h => by
    rw [AHeap.get_push, AHeap.next_set] at h
    split at h
    · rename_i e; simp only [Option.some.injEq] at h; exact .inl ⟨e, h.symm⟩
    · rename_i e
      rw [AHeap.get_set] at h
      split at h
      · cases h
      · rename_i e2; exact .inr ⟨e, e2, h⟩
  refine ⟨⟨fun x y h => ?_, fun x y h => ?_, fun x x' y y' h h' he => ?_, I.bound⟩, ⟨rfl, rfl, rfl, Nat.le_refl _, fun _ _ => rfl, fun _ _ _ => rfl, fun _ h => .inl h, fun _ _ h _ => h, fun x hx => ⟨.inl hx, hm x fun e => hn (e ▸ hx)⟩, fun x y h => ?_⟩⟩
  · rcases hget x y h with ⟨rfl, rfl⟩ | ⟨h1, h2, h3⟩
    · rw [hmn]; exact ⟨.inr rfl, (I.own b _ hb).2⟩
    · rw [hm x h1]; exact ⟨.inl (I.own x y h3).1, (I.own x y h3).2⟩
  · have tr : ∀ (x' : Nat), H.get x' = some y → ∃ c, w.heap[m x']? = some (.cells c y.e (0, 0)) ∧ RRows w F (withB A H.next) (withM m H.next (m b)) y c := fun x' h => by
      obtain ⟨c, hc, hr⟩ := I.blk x' y h
      exact ⟨c, hc, hr.fits, hr.wide, hr.flat, fun i row j a h1 h2 => let ⟨v, q1, q2, q3⟩ := hr.cell i row j a h1 h2; ⟨v, q1, q2, hmono q3⟩⟩
    rcases hget x y h with ⟨rfl, rfl⟩ | ⟨h1, h2, h3⟩
    · rw [hmn]; exact tr b hb
    · rw [hm x h1]; exact tr x h3
  · rcases hget x y h with ⟨rfl, rfl⟩ | ⟨h1, h2, h3⟩ <;> rcases hget x' y' h' with ⟨rfl, rfl⟩ | ⟨h4, h5, h6⟩
    · rfl
    · rw [hmn, hm x' h4] at he; exact absurd (I.inj _ _ _ _ hb h6 he).symm h5
    · rw [hmn, hm x h1] at he; exact absurd (I.inj _ _ _ _ h3 hb he) h2
    · rw [hm x h1, hm x' h4] at he; exact I.inj _ _ _ _ h3 h6 he
  · rcases hget x y h with ⟨rfl, rfl⟩ | ⟨h1, h2, h3⟩
    · exact .inl ⟨b, _, hb, hmn.symm⟩
    · exact .inl ⟨x, y, h3, (hm x h1).symm⟩
theorem AHeap.set_set_push (H : AHeap) (b : Nat) (x : Option Blk) (y : Blk) : ((H.set b x).set b none).push y = (H.set b none).push y := by
  simp only [AHeap.push, AHeap.set]
  congr 1
  funext j
  by_cases h1 : j = H.next <;> by_cases h2 : j = b <;> simp [h1, h2]
theorem After.trans {w' w'' : World} {F' A' A'' : Nat → Prop} {m' : Nat → Nat} {H' H'' : AHeap} {z : AV} {r : Value} (E : Evo w F A m H w' F' A' m' H') (h : After w' F' A' m' H' A'' H'' z r w'') : After w F A m H A'' H'' z r w'' := by
  obtain ⟨F2, m2, q1, q2, q3⟩ := h.ex
  exact ⟨F2, m2, q1, q2, E.trans q3⟩
theorem withB_self {A : Nat → Prop} {b : Nat} {a : AV} {v : Value} {m : Nat → Nat} (h : RV w F A m a v) : RV w F (withB A b) m a v :=
  h.mono (Nat.le_refl _) (fun _ _ => rfl) (fun _ _ _ => rfl) (fun _ _ h => h) (fun _ hx => ⟨.inl hx, rfl⟩)
theorem run_append_zeros (w : World) (t t' ty e : TypeId) (i : TypeInfo) (z : Value) (kk : IntKind) (ht : P.underlying t = some (.slice e)) (ht' : P.underlying t' = some (.int kk)) (hi : P.info? e = some i) (hz : i.zero = some z)
    (n : Nat) (h0 : 0 < n) (h63 : (n : Int) ≤ 4611686018427387904) (h48 : n * i.bytes ≤ 140737488355328) :
    (Builtin.append_ #[t, t'] ty #[.slice none 0 0, .int .i64 n]).run P w =
      .ok (.slice (some ⟨w.heap.size, 0, none⟩) n (grownCap w n 0 e)) (w.drew.alloc (.cells ((if n * i.size = 0 then #[] else Builtin.zeroCells z.cells n) ++ Builtin.zeroCells z.cells (grownCap w n 0 e - n)) e)) := by
  have hn : n ≠ 0 := by omega
  have h63' : ¬ (9223372036854775807 < (n : Int)) := by omega
  have h48' : ¬ (281474976710656 < Builtin.nextslicecap n 0 * i.bytes) := by rw [nextslicecap_zero h0]; omega
  have hw : IntKind.i64.wrap (n : Int) = n := by simp [IntKind.wrap, IntKind.bits, IntKind.signed]; omega
  have hneg : ¬ ((n : Int) < 0) := by omega
  have hb : ¬ (281474976710656 < (n : Int) * (i.bytes : Int)) := by
    have : (n : Int) * (i.bytes : Int) = ((n * i.bytes : Nat) : Int) := by simp
    omega
  by_cases hs : n * i.size = 0
  · simp [Builtin.append_, run_underlying ht, run_underlying ht', sizeOf, typeInfo, zeroValue, hi, hz, Builtin.lenOf, hn, h63', h48', Question.forced, run_firstCells_none, newRow, grownCap, hw, hneg, hb, hs, asInt, asIntOf]
  · simp [Builtin.append_, run_underlying ht, run_underlying ht', sizeOf, typeInfo, zeroValue, hi, hz, Builtin.lenOf, hn, h63', h48', Question.forced, run_firstCells_none, newRow, grownCap, hw, hneg, hb, hs, asInt, asIntOf]
theorem aappendZ_sound {t t' ty : TypeId} {s x z : AV} {u v : Value} {H' : AHeap} (h : aappendZ P t t' s x H = some (z, H')) (I : Inv w F A m H) (hn : ¬ A H.next) (hs : RV w F A m s u) (hx : RV w F A m x v) :
    ∃ r w', (Builtin.append_ #[t, t'] ty #[u, v]).run P w = .ok r w' ∧ After w F A m H (withB A H.next) H' z r w' := by
  unfold aappendZ aappendZR at h
  split at h <;> try (cases h; done)
  rename_i _ _ _ _ kk n hii hkk
  have hint : ∃ kd, P.underlying t' = some (.int kd) := by
    unfold isInt at hii
    split at hii
    · exact ⟨_, by assumption⟩
    · cases hii
  obtain ⟨kd, hint⟩ := hint
  obtain ⟨i, zv, hu, hi, hz, hzs, hpos, k1, k2, k3⟩ := ekOf_some hkk
  obtain ⟨e, ksz, kby, kz⟩ := kk
  simp only at hu hi k1 k2 k3 h
  subst k1 k2 k3
  split at h <;> try (cases h; done)
  rename_i hok
  obtain ⟨h0, hby, hbp⟩ := hok
  simp only [Option.some.injEq, Prod.mk.injEq] at h
  obtain ⟨rfl, rfl⟩ := h
  cases hs
  cases hx
  obtain ⟨k, rfl⟩ : ∃ k : Nat, n = k := ⟨n.toNat, by omega⟩
  have hby' : k * i.bytes ≤ 140737488355328 := by
    have : (k : Int) * (i.bytes : Int) = ((k * i.bytes : Nat) : Int) := by simp
    omega
  have hnl : k ≤ 140737488355328 := Nat.le_trans (Nat.le_mul_of_pos_right _ hbp) hby'
  have hrun := run_append_zeros (P := P) w t t' ty e i zv kd hu hint hi hz k (by omega) (by omega) hby'
  have hge := grownCap_ge w k 0 e
  have hmx := grownCap_le_maxLen w k 0 e (by simp only [maxLen]; omega)
  refine ⟨_, _, hrun, ?_⟩
  have hsz : ((if k * i.size = 0 then #[] else Builtin.zeroCells zv.cells k) ++ Builtin.zeroCells zv.cells (grownCap w k 0 e - k)).size = grownCap w k 0 e * i.size := by
    by_cases hz0 : k * i.size = 0
    · have : i.size = 0 := by rcases Nat.mul_eq_zero.1 hz0 with h | h <;> omega
      simp [this, size_zeroCells, hzs]
    · rw [if_neg hz0]
      simp only [Array.size_append, size_zeroCells, hzs, ← Nat.add_mul]
      congr 1
      omega
  exact After.trans Evo.drew (new_slice (w := w.drew) (blk := { e, sz := i.size, flat := true, rows := [] }) (Inv.drew I) hn ⟨by simp, by simp, fun _ => by simp [flatRows], by simp⟩ (by simpa using hge) hmx hsz)
theorem aappend_sound {t ty : TypeId} {s x z : AV} {u v : Value} {H' : AHeap} (h : aappend P t s x H = some (z, H')) (I : Inv w F A m H) (hn : ¬ A H.next) (hs : RV w F A m s u) (hx : RV w F A m x v) :
    ∃ r w', (Builtin.append_ #[t, t] ty #[u, v]).run P w = .ok r w' ∧ After w F A m H (withB A H.next) H' z r w' := by
  unfold aappend aappendR at h
  split at h <;> try (cases h; done)
  rename_i kk hkk
  obtain ⟨i, zv, hu, hi, hz, hzs, hpos, k1, k2, k3⟩ := ekOf_some hkk
  obtain ⟨e, ksz, kby, kz⟩ := kk
  simp only at hu hi k1 k2 k3 h
  subst k1 k2 k3
  split at h <;> try (cases h; done)
  rename_i new fl hnew
  split at h <;> try (cases h; done)
  rename_i hbp
  obtain ⟨news, a, cap, rfl, hfl, hff, hnil, hcell⟩ := source_sound hnew I hx hpos
  split at h
  ·
    split at h <;> try (cases h; done)
    rename_i hby
    cases hs
    split at h
    · rename_i hne
      subst hne
      simp only [Option.some.injEq, Prod.mk.injEq] at h
      obtain ⟨rfl, rfl⟩ := h
      refine ⟨.slice none 0 0, w, ?_, ⟨F, m, ⟨fun b x h => ⟨.inl (I.own b x h).1, (I.own b x h).2⟩, fun b x h => ?_, I.inj, I.bound⟩, .nils, ⟨rfl, rfl, rfl, Nat.le_refl _, fun _ _ => rfl, fun _ _ _ => rfl, fun _ h => .inl h, fun _ _ h _ => h, fun _ h => ⟨.inl h, rfl⟩, fun b x h => .inl ⟨_, _, h, rfl⟩⟩⟩⟩
      · cases a <;> simp [Builtin.append_, run_underlying hu, sizeOf, typeInfo, hi, Builtin.lenOf, Builtin.firstCells, loadCells, loadCellsFrom]
      · obtain ⟨c, hc, hr⟩ := I.blk b x h
        exact ⟨c, hc, hr.fits, hr.wide, hr.flat, fun i row j a h1 h2 => let ⟨v, q1, q2, q3⟩ := hr.cell i row j a h1 h2; ⟨v, q1, q2, withB_self q3⟩⟩
    · rename_i hne
      simp only [Option.some.injEq, Prod.mk.injEq] at h
      obtain ⟨rfl, rfl⟩ := h
      cases a with
      | none => exact absurd (hnil rfl) hne
      | some ad =>
        have hlen : 0 < new.length := List.length_pos_iff.2 hne
        have hnl : new.length ≤ 140737488355328 := Nat.le_trans (Nat.le_mul_of_pos_right _ hbp) hby
        have hrun := run_append_nil (P := P) w t ty e i zv hu hi hz ad new.length cap news hfl.len (hcell ad rfl) hlen (by omega) (by omega)
        have hge := grownCap_ge w new.length 0 e
        have hmx := grownCap_le_maxLen w new.length 0 e (by simp only [maxLen]; omega)
        have hsz : (news.toArray ++ Builtin.zeroCells zv.cells (grownCap w new.length 0 e - new.length)).size = grownCap w new.length 0 e * i.size := by
          simp only [Array.size_append, List.size_toArray, hfl.len, size_zeroCells, hzs, ← Nat.add_mul]
          congr 1
          omega
        refine ⟨_, _, hrun, ?_⟩
        have hR : RRows w.drew F A m { e, sz := i.size, flat := fl, rows := new } (news.toArray ++ Builtin.zeroCells zv.cells (grownCap w new.length 0 e - new.length)) := by
          have := (Flat.drew (n := w.drawn + 1) hfl).rows e fl hff (Builtin.zeroCells zv.cells (grownCap w new.length 0 e - new.length)).toList
          have e1 : news.toArray ++ Builtin.zeroCells zv.cells (grownCap w new.length 0 e - new.length) = (news ++ (Builtin.zeroCells zv.cells (grownCap w new.length 0 e - new.length)).toList).toArray := by
            apply Array.toList_inj.1; simp
          rw [e1]; exact this
        exact After.trans Evo.drew (new_slice (w := w.drew) (blk := { e, sz := i.size, flat := fl, rows := new }) (Inv.drew I) hn hR hge hmx hsz)
  ·
    rename_i b sz len
    split at h <;> try (cases h; done)
    rename_i blk hb
    split at h <;> try (cases h; done)
    rename_i hok
    obtain ⟨hs1, hs2, hbe, hrl, hby⟩ := hok
    subst hs1
    simp only [Option.some.injEq, Prod.mk.injEq] at h
    obtain ⟨rfl, rfl⟩ := h
    obtain ⟨c, hc, hr⟩ := I.blk b blk hb
    cases hs with
    | sl b s off len capS e' hA hcap hmS hshape =>
      have hsize : c.size = capS * i.size := by
        rw [shape_of_cells hc] at hshape
        simp only [Option.some.injEq, Prod.mk.injEq, Nat.zero_add] at hshape
        exact hshape.2
      have hsum : len + new.length ≤ 140737488355328 := Nat.le_trans (Nat.le_mul_of_pos_right _ hbp) hby
      rw [hbe] at hc
      have hold : Flat w F A m i.size blk.rows (c.toList.take (len * i.size)) := by
        have hle : len * i.size ≤ c.size := by rw [hsize]; exact Nat.mul_le_mul_right _ hcap
        refine ⟨by rw [hrl]; simp; omega, fun row h => hs2 ▸ hr.wide row h, fun y hy => ?_, fun q row j y h1 h2 => ?_⟩
        · obtain ⟨k, hk⟩ := List.mem_iff_getElem?.1 hy
          have hk2 : k < len * i.size := by have := (List.getElem?_eq_some_iff.1 hk).1; simp at this; omega
          rw [List.getElem?_take, if_pos hk2] at hk
          have h0 : k / i.size < blk.rows.length := by rw [hrl]; exact Nat.div_lt_of_lt_mul (by rw [Nat.mul_comm]; exact hk2)
          have h3 : k % i.size < (blk.rows[k / i.size]).length := by rw [hr.wide _ (List.getElem_mem h0), hs2]; exact Nat.mod_lt _ hpos
          obtain ⟨y', q1, q2, _⟩ := hr.cell (k / i.size) blk.rows[k / i.size] (k % i.size) (blk.rows[k / i.size])[k % i.size] (by simp [h0]) (by simp [h3])
          rw [hs2, Nat.mul_comm, Nat.div_add_mod] at q1
          have : y = y' := by simpa [q1] using hk.symm
          rw [this]; exact q2
        · obtain ⟨y', q1, _, q3⟩ := hr.cell q row j y h1 h2
          have hq := (List.getElem?_eq_some_iff.1 h1).1
          have hj : j < i.size := by rw [← hs2, ← hr.wide row (List.mem_of_getElem? h1)]; exact (List.getElem?_eq_some_iff.1 h2).1
          have hlt : q * i.size + j < len * i.size := by have := row_le (sz := i.size) hq; rw [hrl] at this; omega
          refine ⟨y', ?_, q3⟩
          rw [List.getElem?_take, if_pos hlt]
          rw [hs2] at q1
          simpa using q1
      have hfapp : (blk.flat && fl) = true → flatRows (blk.rows ++ new) := fun h row hrow => by
        rw [Bool.and_eq_true] at h
        rcases List.mem_append.1 hrow with hrow | hrow
        · exact hr.flat h.1 row hrow
        · exact hff h.2 row hrow
      simp only [Nat.zero_mul]
      by_cases hroom : len + new.length ≤ capS
      ·
        have key : ∀ (c' : Array Value), c'.size = c.size → RRows w F A m { e, sz := i.size, flat := blk.flat && fl, rows := blk.rows ++ new } c' → ∀ w1, w1 = w.setRow (m b) c' →
            After w F A m H (withB A H.next) ((H.set b none).push { e, sz := i.size, flat := blk.flat && fl, rows := blk.rows ++ new }) (.sl H.next i.size 0 (len + new.length)) (.slice (some ⟨m b, 0, none⟩) (len + new.length) capS) w1 := by
          intro c' hcs hR w1 hw1
          subst hw1
          obtain ⟨I1, E1⟩ := setRow_sound (blk := blk) (blk' := { e, sz := i.size, flat := blk.flat && fl, rows := blk.rows ++ new }) (c' := c') hbe.symm I hb (by rw [hbe]; exact hc) hcs hR
          obtain ⟨I2, E2⟩ := renumber (b := b) (blk := { e, sz := i.size, flat := blk.flat && fl, rows := blk.rows ++ new }) I1 (by simpa [AHeap.set] using hn) (by simp [AHeap.set])
          rw [AHeap.set_set_push] at I2 E2
          simp only [AHeap.next_set] at I2 E2
          refine ⟨_, _, I2, ?_, E1.trans E2⟩
          have hsh := setRow_heap w (m b) c c' e (0, 0) hc
          have := RV.sl (w := w.setRow (m b) c') (F := F) (A := withB A H.next) (m := withM m H.next (m b)) H.next i.size 0 (len + new.length) capS e (.inr rfl) hroom hmS
            (by simp only [withM, if_true]; rw [shape_of_cells hsh, hcs, hsize]; simp)
          simpa [withM] using this
        have hle : len * i.size + news.length ≤ c.size := by
          rw [hfl.len, hsize, ← Nat.add_mul]; exact Nat.mul_le_mul_right _ hroom
        have hR : RRows w F A m { e, sz := i.size, flat := blk.flat && fl, rows := blk.rows ++ new } (c.toList.take (len * i.size) ++ news ++ c.toList.drop (len * i.size + news.length)).toArray := by
          exact (hold.append hfl).rows e (blk.flat && fl) hfapp (c.toList.drop (len * i.size + news.length))
        have hcs : (c.toList.take (len * i.size) ++ news ++ c.toList.drop (len * i.size + news.length)).toArray.size = c.size := by
          simp only [List.size_toArray, List.length_append, List.length_take, List.length_drop, Array.length_toList]
          omega
        cases a with
        | some ad =>
          have hrun := run_append_room (P := P) w t ty e i hu hi (m b) len capS c hc ad new.length cap news hfl.len (hcell ad rfl) hfl.one hroom hle
          exact ⟨_, _, hrun, key _ hcs hR _ rfl⟩
        | none =>
          have hne := hnil rfl
          subst hne
          have hnw : news = [] := List.eq_nil_of_length_eq_zero (by simpa using hfl.len)
          subst hnw
          refine ⟨.slice (some ⟨m b, 0, none⟩) len capS, w, ?_, ?_⟩
          · simp [Builtin.append_, run_underlying hu, sizeOf, typeInfo, hi, Builtin.lenOf, Builtin.firstCells, hcap, storeCells]
          · have hR' : RRows w F A m { e, sz := i.size, flat := blk.flat && fl, rows := blk.rows ++ [] } c :=
              ⟨by have := hr.fits; rw [hs2] at this; simpa using this, fun row h => by rw [← hs2]; exact hr.wide row (by simpa using h), hfapp, fun q row j y h1 h2 => by
                obtain ⟨v, q1, q2, q3⟩ := hr.cell q row j y (by simpa using h1) h2
                exact ⟨v, by rw [hs2] at q1; exact q1, q2, q3⟩⟩
            have := key c rfl hR' w (setRow_self w (m b) c e (0, 0) hc).symm
            simpa using this
      ·
        cases a with
        | none =>
          have hne := hnil rfl
          subst hne
          exact absurd hcap (by simpa using hroom)
        | some ad =>
          have holds : ∀ (j : Nat) (y : Value), (c.toList.take (len * i.size))[j]? = some y → w.cell? ((⟨m b, 0, none⟩ : Addr).add j) = some y := fun j y hy => by
            rw [add_lit, Nat.zero_add, cell_of_row w (m b) j c e (0, 0) hc]
            rw [List.getElem?_take] at hy
            split at hy
            · simpa using hy
            · cases hy
          have hlo : (c.toList.take (len * i.size)).length = len * i.size := by
            have := hold.len
            rw [hrl] at this
            exact this
          have hrun := run_append_grow (P := P) w t ty e i zv hu hi hz ⟨m b, 0, none⟩ len capS (c.toList.take (len * i.size)) hlo holds ad new.length cap news hfl.len (hcell ad rfl) (by omega) (by omega) (growslice_fits (by omega) hby)
          have hge := grownCap_ge w (len + new.length) capS e
          have hmx := grownCap_le_maxLen w (len + new.length) capS e (by simp only [maxLen]; omega)
          have hsz : ((c.toList.take (len * i.size)).toArray ++ news.toArray ++ Builtin.zeroCells zv.cells (grownCap w (len + new.length) capS e - (len + new.length))).size = grownCap w (len + new.length) capS e * i.size := by
            rw [Array.size_append, Array.size_append, List.size_toArray, List.size_toArray, hlo, hfl.len, size_zeroCells, hzs, ← Nat.add_mul, ← Nat.add_mul]
            congr 1
            omega
          refine ⟨_, _, hrun, ?_⟩
          have hR : RRows w.drew F A m { e, sz := i.size, flat := blk.flat && fl, rows := blk.rows ++ new } ((c.toList.take (len * i.size)).toArray ++ news.toArray ++ Builtin.zeroCells zv.cells (grownCap w (len + new.length) capS e - (len + new.length))) := by
            have := (Flat.drew (n := w.drawn + 1) (hold.append hfl)).rows e (blk.flat && fl) hfapp (Builtin.zeroCells zv.cells (grownCap w (len + new.length) capS e - (len + new.length))).toList
            have e1 : (c.toList.take (len * i.size)).toArray ++ news.toArray ++ Builtin.zeroCells zv.cells (grownCap w (len + new.length) capS e - (len + new.length)) = (c.toList.take (len * i.size) ++ news ++ (Builtin.zeroCells zv.cells (grownCap w (len + new.length) capS e - (len + new.length))).toList).toArray := by
              apply Array.toList_inj.1; simp
            rw [e1]; exact this
          exact After.trans (Evo.drew.trans Evo.kill) (new_slice (w := w.drew) (H := H.set b none) (blk := { e, sz := i.size, flat := blk.flat && fl, rows := blk.rows ++ new }) ((Inv.drew I).kill b) (by simpa [AHeap.set] using hn) hR hge hmx hsz)
  · cases h
end
end Go.Abs
end
section
set_option linter.unusedSimpArgs false
set_option linter.unusedVariables false
namespace Go.Abs
def overR (b off n : Nat) (blk : Blk) (fl : Bool) (new : List (List AV)) (H : AHeap) : AHeap :=
  H.set b (some { e := blk.e, sz := blk.sz, flat := blk.flat && fl, rows := blk.rows.take off ++ new ++ blk.rows.drop (off + n) })
def acopyR (k : Option EK) (d s : AV) (H : AHeap) : Option (AV × AHeap) :=
  match k with
  | some k => match rowsOf s k.size H, d with
    | some (new, fl), .sl b sz off len => match H.get b with
      | some blk => if k.size = 1 ∧ sz = 1 ∧ blk.sz = 1 ∧ off + len ≤ blk.rows.length then
          some (.int .i64 (min new.length len : Nat), overR b off (min new.length len) blk fl (new.take len) H) else none
      | none => none
    | _, _ => none
  | none => none
def aclearR (k : Option EK) (d : AV) (H : AHeap) : Option (AV × AHeap) :=
  match k with
  | some k => match d with
    | .sl b sz off len => match H.get b with
      | some blk => if k.size = 1 ∧ sz = 1 ∧ blk.sz = 1 ∧ off + len ≤ blk.rows.length ∧ k.zero.all AV.isCell = true then
          some (.tup [], overR b off len blk (k.zero.all AV.flat) (List.replicate len k.zero) H) else none
      | none => none
    | .nils | .esl _ => some (.tup [], H)
    | .rsl _ [] => some (.tup [], H)
    | _ => none
  | none => none
section
variable {P : Program} {w : World} {F A : Nat → Prop} {m : Nat → Nat} {H : AHeap}
theorem RRows.seg {blk : Blk} {c : Array Value} (hr : RRows w F A m blk c) (off k : Nat) (h : off + k ≤ blk.rows.length) (hsz : blk.sz = 1) :
    Flat w F A m 1 ((blk.rows.drop off).take k) ((c.toList.drop off).take k) := by
  have hf := hr.fits
  rw [hsz, Nat.mul_one] at hf
  have hcell : ∀ (q : Nat) (row : List AV), blk.rows[q]? = some row → ∃ y, c[q]? = some y ∧ y.oneCell' = true ∧ row.length = 1 ∧ ∀ a, row[0]? = some a → RV w F A m a y := fun q row hq => by
    have hl := hr.wide row (List.mem_of_getElem? hq)
    rw [hsz] at hl
    obtain ⟨v, h1, h2, h3⟩ := hr.cell q row 0 row[0] hq (by simp [hl])
    rw [hsz, Nat.mul_one, Nat.add_zero] at h1
    exact ⟨v, h1, h2, hl, fun a ha => by simp [hl] at ha; rw [← ha]; exact h3⟩
  refine ⟨by simp; omega, fun row hrow => ?_, fun u hu => ?_, fun i row j a h1 h2 => ?_⟩
  · obtain ⟨i, hi⟩ := List.mem_iff_getElem?.1 hrow
    have hik : i < k := by have := (List.getElem?_eq_some_iff.1 hi).1; simp at this; omega
    rw [List.getElem?_take, if_pos hik, List.getElem?_drop] at hi
    obtain ⟨y, _, _, q, _⟩ := hcell _ _ hi
    exact q
  · obtain ⟨i, hi⟩ := List.mem_iff_getElem?.1 hu
    have hik : i < k := by have := (List.getElem?_eq_some_iff.1 hi).1; simp at this; omega
    rw [List.getElem?_take, if_pos hik, List.getElem?_drop] at hi
    obtain ⟨y, q1, q2, _⟩ := hcell (off + i) (blk.rows[off + i]'(by omega)) (by simp [show off + i < blk.rows.length by omega])
    rw [Array.getElem?_toList, q1] at hi
    rw [← Option.some.inj hi]; exact q2
  · have hik : i < k := by have := (List.getElem?_eq_some_iff.1 h1).1; simp at this; omega
    rw [List.getElem?_take, if_pos hik, List.getElem?_drop] at h1
    obtain ⟨y, q1, _, q3, q4⟩ := hcell _ _ h1
    have hj : j = 0 := by have := (List.getElem?_eq_some_iff.1 h2).1; omega
    subst hj
    refine ⟨y, ?_, q4 a h2⟩
    rw [Nat.mul_one, Nat.add_zero, List.getElem?_take, if_pos hik, List.getElem?_drop, Array.getElem?_toList]; exact q1
theorem Flat.take1 {rows : List (List AV)} {vs : List Value} (h : Flat w F A m 1 rows vs) (k : Nat) : Flat w F A m 1 (rows.take k) (vs.take k) := by
  have hl := h.len
  rw [Nat.mul_one] at hl
  refine ⟨by simp [hl], fun row hr => h.wide row (List.mem_of_mem_take hr), fun u hu => h.one u (List.mem_of_mem_take hu), fun i row j a h1 h2 => ?_⟩
  have hik : i < k := by have := (List.getElem?_eq_some_iff.1 h1).1; simp at this; omega
  rw [List.getElem?_take, if_pos hik] at h1
  obtain ⟨v, q1, q2⟩ := h.cell i row j a h1 h2
  have hj : j = 0 := by have := (List.getElem?_eq_some_iff.1 h2).1; have := h.wide row (List.mem_of_getElem? h1); omega
  subst hj
  exact ⟨v, by rw [Nat.mul_one, Nat.add_zero] at q1 ⊢; rw [List.getElem?_take, if_pos hik]; exact q1, q2⟩
theorem over_rows {blk : Blk} {c : Array Value} (hr : RRows w F A m blk c) (hsz : blk.sz = 1) {off : Nat} {new : List (List AV)} {vs : List Value} {fl : Bool} (hn : Flat w F A m 1 new vs) (hfl : fl = true → flatRows new) (h : off + new.length ≤ blk.rows.length) :
    RRows w F A m { e := blk.e, sz := blk.sz, flat := blk.flat && fl, rows := blk.rows.take off ++ new ++ blk.rows.drop (off + new.length) } (c.toList.take off ++ vs ++ c.toList.drop (off + vs.length)).toArray ∧
    (c.toList.take off ++ vs ++ c.toList.drop (off + vs.length)).toArray.size = c.size := by
  have hl := hn.len
  rw [Nat.mul_one] at hl
  have hf := hr.fits
  rw [hsz, Nat.mul_one] at hf
  have h1 := hr.seg 0 off (by omega) hsz
  have h2 := hr.seg (off + new.length) (blk.rows.length - (off + new.length)) (by omega) hsz
  simp only [List.drop_zero] at h1
  rw [List.take_of_length_le (by simp)] at h2
  have h3 := (h1.append hn).append h2
  have h4 := h3.rows blk.e (blk.flat && fl) (fun q row hrow => by
    rw [Bool.and_eq_true] at q
    rcases List.mem_append.1 hrow with hrow | hrow
    · rcases List.mem_append.1 hrow with hrow | hrow
      · exact hr.flat q.1 row (List.mem_of_mem_take hrow)
      · exact hfl q.2 row hrow
    · exact hr.flat q.1 row (List.mem_of_mem_drop hrow)) ((c.toList.drop (off + new.length)).drop (blk.rows.length - (off + new.length)))
  refine ⟨?_, by simp; omega⟩
  rw [hsz, hl]
  rw [List.append_assoc (c.toList.take off ++ vs), List.take_append_drop] at h4
  exact h4
theorem acopy_sound {t ty : TypeId} {d s z : AV} {u v : Value} {H' : AHeap} (h : acopyR (ekOf P t) d s H = some (z, H')) (I : Inv w F A m H) (hd : RV w F A m d u) (hs : RV w F A m s v) :
    ∃ r w', (Builtin.copy_ #[t, t] ty #[u, v]).run P w = .ok r w' ∧ After w F A m H A H' z r w' := by
  unfold acopyR at h
  split at h <;> try (cases h; done)
  rename_i kk hkk
  obtain ⟨i, zv, hu, hi, hz, hzs, hpos, k1, k2, k3⟩ := ekOf_some hkk
  split at h <;> try (cases h; done)
  rename_i new fl b sz off len hnew
  split at h <;> try (cases h; done)
  rename_i blk hb
  split at h <;> try (cases h; done)
  rename_i hok
  obtain ⟨o1, rfl, o3, o4⟩ := hok
  simp only [Option.some.injEq, Prod.mk.injEq] at h
  obtain ⟨rfl, rfl⟩ := h
  rw [o1] at hnew
  obtain ⟨news, a, cap, rfl, hfl, hff, hnil, hcell⟩ := source_sound hnew I hs (by omega)
  obtain ⟨c, hc, hr⟩ := I.blk b blk hb
  have hsize : (P.info? kk.e).map (·.size) = some 1 := by rw [hi]; simp; omega
  cases hd with
  | sl b s off len capS e' hA hcap hmS hshape =>
    rw [Nat.mul_one]
    have hl := hfl.len
    rw [Nat.mul_one] at hl
    have hn := hfl.take1 len
    have hl1 : (new.take len).length = min new.length len := by simp [Nat.min_comm]
    have hl2 : (news.take len).length = min new.length len := by simp [hl, Nat.min_comm]
    obtain ⟨hR, hcs⟩ := over_rows hr o3 hn (fun q row hrow => hff q row (List.mem_of_mem_take hrow)) (off := off) (by rw [hl1]; omega)
    rw [hl1, hl2] at hR
    rw [hl2] at hcs
    cases a with
    | some ad =>
      have hrun := run_copy_row (P := P) w t t ty kk.e (m b) off len capS ad new.length cap c blk.e (news.take len) hu hsize hc hl2 (fun j u hj => by
        have hjk : j < len := by have := (List.getElem?_eq_some_iff.1 hj).1; simp at this; omega
        rw [List.getElem?_take, if_pos hjk] at hj
        exact hcell ad rfl j u hj) (by
          have hf := hr.fits
          rw [o3, Nat.mul_one] at hf
          rw [hl2]; omega) (fun u hu => hn.one u hu)
      refine ⟨_, _, hrun, ?_⟩
      rw [hl2]
      obtain ⟨q1, q2⟩ := setRow_sound (blk := blk) (blk' := { e := blk.e, sz := blk.sz, flat := blk.flat && fl, rows := blk.rows.take off ++ new.take len ++ blk.rows.drop (off + min new.length len) }) rfl I hb hc hcs hR
      exact ⟨F, m, q1, .int _ _, q2⟩
    | none =>
      have hne := hnil rfl
      subst hne
      have hnw : news = [] := List.eq_nil_of_length_eq_zero hl
      subst hnw
      refine ⟨.int .i64 0, w, ?_, ?_⟩
      · simp [Builtin.copy_, run_underlying hu, sizeOf, typeInfo, hi, Builtin.lenOf, Builtin.firstCells, storeCells, goInt]
      · simp only [List.take_nil, List.append_nil, List.length_nil, Nat.zero_min, Nat.add_zero, List.take_append_drop, Array.toArray_toList] at hR
        obtain ⟨q1, q2⟩ := setRow_sound (blk := blk) (blk' := { e := blk.e, sz := blk.sz, flat := blk.flat && fl, rows := blk.rows }) (c' := c) rfl I hb hc rfl hR
        rw [setRow_self w (m b) c blk.e (0, 0) hc] at q1 q2
        refine ⟨F, m, ?_, .int _ _, ?_⟩
        · simpa [overR] using q1
        · simpa [overR] using q2
theorem rv_skip : RV w F A m (.tup []) (Value.tuple #[]) := RV.tup [] #[] (by simp) (fun i a v h => by simp at h)
theorem run_zeroes (zv : Value) (w : World) {e : TypeId} {i : TypeInfo} (hi : P.info? e = some i) (hz : i.zero = some zv) : (zeroValue e).run P w = .ok zv w := by
  simp [zeroValue, typeInfo, hi, hz]
theorem aclear_sound {t ty : TypeId} {d z : AV} {u : Value} {H' : AHeap} (h : aclearR (ekOf P t) d H = some (z, H')) (I : Inv w F A m H) (hd : RV w F A m d u) :
    ∃ r w', (Builtin.clear_ #[t] ty #[u]).run P w = .ok r w' ∧ After w F A m H A H' z r w' := by
  unfold aclearR at h
  split at h <;> try (cases h; done)
  rename_i kk hkk
  obtain ⟨i, zv, hu, hi, hz, hzs, hpos, k1, k2, k3⟩ := ekOf_some hkk
  have none_ : ∀ (a : Option Addr) (cap : Nat), (Builtin.clear_ #[t] ty #[.slice a 0 cap]).run P w = .ok (.tuple #[]) w := fun a cap => by
    cases a <;> simp [Builtin.clear_, run_underlying hu]
  have nothing : After w F A m H A H (.tup []) (.tuple #[]) w := ⟨F, m, I, rv_skip, .refl⟩
  split at h <;> try (cases h; done)
  · rename_i b sz off len
    split at h <;> try (cases h; done)
    rename_i blk hb
    split at h <;> try (cases h; done)
    rename_i hok
    obtain ⟨o1, rfl, o3, o4, o5⟩ := hok
    simp only [Option.some.injEq, Prod.mk.injEq] at h
    obtain ⟨rfl, rfl⟩ := h
    obtain ⟨c, hc, hr⟩ := I.blk b blk hb
    have hz1 : zv.cells.size = 1 := by omega
    obtain ⟨z0, hz0⟩ : ∃ z0, zv.cells = #[z0] := by
      refine ⟨zv.cells[0], ?_⟩
      apply Array.ext (by simp [hz1])
      intro j h1 h2
      have : j = 0 := by omega
      subst this; simp
    have hk0 : kk.zero = [ofCell z0] := by rw [k3, hz0]; rfl
    have hzc : (Builtin.zeroCells zv.cells len).toList = List.replicate len z0 := by
      apply List.ext_getElem (by simp [Builtin.zeroCells, hz0])
      intro j h1 h2
      simp [Builtin.zeroCells, hz0, Nat.mod_one]
    have hrv : RV w F A m (ofCell z0) z0 := rv_list_ofCell #[z0] 0 _ _ (by rfl) (by rfl)
    rw [hk0] at o5
    simp only [List.all_cons, List.all_nil, Bool.and_true] at o5
    have hn : Flat w F A m 1 (List.replicate len kk.zero) (List.replicate len z0) := by
      refine ⟨by simp, fun row hrow => by rw [List.eq_of_mem_replicate hrow, hk0]; rfl, fun u hu => by rw [List.eq_of_mem_replicate hu]; exact isCell_one o5 hrv, fun q row j a h1 h2 => ?_⟩
      have hq : q < len := by have := (List.getElem?_eq_some_iff.1 h1).1; simpa using this
      simp [List.getElem?_replicate, hq] at h1
      subst h1
      rw [hk0] at h2
      have hj : j = 0 := by have := (List.getElem?_eq_some_iff.1 h2).1; simp at this; omega
      subst hj
      simp at h2
      subst h2
      exact ⟨z0, by simp [hq], hrv⟩
    obtain ⟨hR, hcs⟩ := over_rows hr o3 (fl := kk.zero.all AV.flat) hn (fun q row hrow a ha => by rw [List.eq_of_mem_replicate hrow] at ha; exact List.all_eq_true.1 q a ha) (off := off) (by simp; omega)
    rw [List.length_replicate, List.length_replicate] at hR
    rw [List.length_replicate] at hcs
    cases hd with
    | sl b s off len capS e' hA hcap hmS hshape =>
      rw [Nat.mul_one]
      cases len with
      | zero =>
        refine ⟨_, w, none_ _ _, ?_⟩
        simp only [List.replicate_zero, List.append_nil, Nat.add_zero, List.take_append_drop, Array.toArray_toList] at hR
        obtain ⟨q1, q2⟩ := setRow_sound (blk := blk) (blk' := { e := blk.e, sz := blk.sz, flat := blk.flat && kk.zero.all AV.flat, rows := blk.rows }) (c' := c) rfl I hb hc rfl hR
        rw [setRow_self w (m b) c blk.e (0, 0) hc] at q1 q2
        refine ⟨F, m, ?_, rv_skip, ?_⟩
        · simpa [overR] using q1
        · simpa [overR] using q2
      | succ n =>
        have hf := hr.fits
        rw [o3, Nat.mul_one] at hf
        have hst := run_storeCells_at P (m b) off blk.e (List.replicate (n + 1) z0) 0 c w hc (by simp; omega) (fun u hu => by rw [List.eq_of_mem_replicate hu]; exact isCell_one o5 hrv)
        simp only [Nat.add_zero, List.length_replicate] at hst
        have hrun : (Builtin.clear_ #[t] ty #[.slice (some ⟨m b, off, none⟩) (n + 1) capS]).run P w = .ok (.tuple #[]) (w.setRow (m b) (c.toList.take off ++ List.replicate (n + 1) z0 ++ c.toList.drop (off + (n + 1))).toArray) := by
          simp only [Builtin.clear_, run_underlying hu, Sem.run_bind, Result.andThen_ok, run_zeroes zv w hi hz, hzc, hst, List.getElem?_toArray, List.getElem?_cons_zero]
          rfl
        refine ⟨.tuple #[], _, hrun, ?_⟩
        · obtain ⟨q1, q2⟩ := setRow_sound (blk := blk) (blk' := { e := blk.e, sz := blk.sz, flat := blk.flat && kk.zero.all AV.flat, rows := blk.rows.take off ++ List.replicate (n + 1) kk.zero ++ blk.rows.drop (off + (n + 1)) }) rfl I hb hc hcs hR
          exact ⟨F, m, q1, rv_skip, q2⟩
  · simp only [Option.some.injEq, Prod.mk.injEq] at h
    obtain ⟨rfl, rfl⟩ := h
    cases hd
    exact ⟨_, w, none_ _ _, nothing⟩
  · simp only [Option.some.injEq, Prod.mk.injEq] at h
    obtain ⟨rfl, rfl⟩ := h
    cases hd
    exact ⟨_, w, none_ _ _, nothing⟩
  · simp only [Option.some.injEq, Prod.mk.injEq] at h
    obtain ⟨rfl, rfl⟩ := h
    cases hd
    all_goals exact ⟨_, w, none_ _ _, nothing⟩
end
end Go.Abs
end
section
set_option linter.unusedSimpArgs false
set_option linter.unusedVariables false
namespace Go.Abs
def catTys (g : TypeId → Option (List (Option Nat))) : List Field → Option (List (Option Nat))
  | [] => some []
  | f :: fs => match g f.type, catTys g fs with
    | some a, some b => some (a ++ b)
    | _, _ => none
def repTys (l : List (Option Nat)) : Nat → List (Option Nat)
  | 0 => []
  | n + 1 => l ++ repTys l n
def cellTys (P : Program) : Nat → TypeId → Option (List (Option Nat))
  | 0, _ => none
  | d + 1, t =>
    match P.underlying t with
    | some (.slice e) => match szOf P e with | some n => some [some n] | none => none
    | some (.struct fs) => catTys (cellTys P d) fs.toList
    | some (.array n e) => match cellTys P d e with | some l => some (repTys l n) | none => none
    | some _ => some [none]
    | none => none
def frzCell (H : AHeap) (n : Option Nat) (a : AV) : Option (AV × List Nat) :=
  match a with
  | .sl b sz off len =>
    match H.get b with
    | some blk => if blk.flat = true ∧ blk.sz = sz ∧ off + len ≤ blk.rows.length then some (.rsl sz ((blk.rows.drop off).take len), [b]) else none
    | none => none
  | .nils => match n with | some k => some (.rsl k [], []) | none => some (.nils, [])
  | .esl k => some (.rsl k [], [])
  | a => if a.flat = true then some (a, []) else none
def frzCells (H : AHeap) : List (Option Nat) → List AV → Option (List AV × List Nat)
  | n :: l, a :: cs => match frzCell H n a, frzCells H l cs with
    | some (a', S), some (cs', S') => some (a' :: cs', S ++ S')
    | _, _ => none
  | [], [] => some ([], [])
  | _, _ => none
def frz (H : AHeap) (l : List (Option Nat)) (a : AV) : Option (AV × List Nat) :=
  match a with
  | .agg cs => match frzCells H l cs with
    | some (cs', S) => some (.agg cs', S)
    | none => none
  | a => frzCell H (l.headD none) a
def frzArgs (H : AHeap) : List (List (Option Nat)) → List AV → Option (List AV × List Nat)
  | n :: l, a :: cs => match frz H n a, frzArgs H l cs with
    | some (a', S), some (cs', S') => some (a' :: cs', S ++ S')
    | _, _ => none
  | [], [] => some ([], [])
  | _, _ => none
def frzMask (H : AHeap) : List Bool → List (List (Option Nat)) → List AV → Option (List AV × List Nat)
  | true :: ms, n :: l, a :: cs => match frz H n a, frzMask H ms l cs with
    | some (a', S), some (cs', S') => some (a' :: cs', S ++ S')
    | _, _ => none
  | false :: ms, _ :: l, a :: cs => match frzMask H ms l cs with
    | some (cs', S') => some (a :: cs', S')
    | none => none
  | [], _, cs => some (cs, [])
  | _, _, _ => none
def AHeap.killAll (H : AHeap) (S : List Nat) : AHeap := { next := H.next, get := fun b => if b ∈ S then none else H.get b }
def AV.noSlC : AV → Bool
  | .int .. | .bool _ | .str _ | .nilp | .nils | .nilf => true
  | _ => false
def AV.noSl : AV → Bool
  | .agg cs => cs.all AV.noSlC
  | .tup vs => vs.all fun v => match v with | .agg cs => cs.all AV.noSlC | v => v.noSlC
  | v => v.noSlC
def AV.closed : AV → Bool
  | .agg cs => cs.all AV.flat
  | .tup vs => vs.all fun v => match v with | .agg cs => cs.all AV.flat | v => v.flat
  | v => v.flat
inductive Con where
  | pure (keep : Bool) (spec : List AV → Option AV)
  | ref (fz : List Bool) (spec : List AV → AHeap → Option (AV × AHeap))
  | iter (spec : List AV → AHeap → Option (List (List AV)))
  | gen (start : List AV → AHeap → Option (AV × AHeap)) (next : Nat → AV → AHeap → Option (Option (List AV × Bool) × AHeap))
def AV.isLit : AV → Bool
  | .int .. | .bool _ => true
  | _ => false
def AV.toVal : AV → Value
  | .int k n => .int k n
  | .bool b => .bool b
  | _ => Go.undef
def Nx (H : AHeap) : Nat → Prop := fun b => b < H.next
def tysOf (P : Program) : List TypeId → Option (List (List (Option Nat)))
  | [] => some []
  | t :: ts => match cellTys P 8 t, tysOf P ts with
    | some a, some b => some (a :: b)
    | _, _ => none
def callP (keep : Bool) (spec : List AV → Option AV) (l : List (List (Option Nat))) (args : List AV) (H : AHeap) : Option (AV × AHeap) :=
  match frzArgs H l args with
  | some (args', S) => match spec args' with
    | some r => if r.closed = true then (if S = [] ∨ r.noSl = true ∨ keep = true then some (r, H) else some (r, H.killAll S)) else none
    | none => none
  | none => none
def callM (fz : List Bool) (spec : List AV → AHeap → Option (AV × AHeap)) (l : List (List (Option Nat))) (args : List AV) (H : AHeap) : Option (AV × AHeap) :=
  match frzMask H fz l args with
  | some (args', S) => spec args' (if S = [] then H else H.killAll S)
  | none => none
def acallR (c : Option Con) (l : Option (List (List (Option Nat)))) (args : List AV) (H : AHeap) : Option (AV × AHeap) :=
  match c, l with
  | some (.pure keep spec), some l => callP keep spec l args H
  | some (.ref fz spec), some l => callM fz spec l args H
  | _, _ => none
def acall (P : Program) (c : Option Con) (tys : List TypeId) (args : List AV) (H : AHeap) : Option (AV × AHeap) := acallR c (tysOf P tys) args H
def RLs (w : World) (F A : Nat → Prop) (m : Nat → Nat) (cs : List AV) (vs : Array Value) : Prop := RL w F A m cs vs.toList
def Callable (P : Program) (f : FuncId) : Prop := ∀ args w, (callFunc f args).run P w = .ok (.enter f args) w
def Hands (P : Program) (g : FuncId) (spec : List AV → AHeap → Option (List (List AV))) : Prop :=
  ∀ (caps : List AV) (xs : List (List AV)) (us : Array Value) (l : Nat) (J : Nat → World → Prop) (Jx : World → Prop) (W : World),
    (∀ k B, J k B → ∃ F m H, Inv B F (Nx H) m H ∧ RLs B F (Nx H) m caps us ∧ spec caps H = some xs) →
    (∀ k B B', J k B → B.grownBy B' none → J k B') → (∀ B B', Jx B → B.grownBy B' none → Jx B') →
    (∀ k x B, xs[k]? = some x → J k B → YieldAt Fence.wide 0 P l (x.map AV.toVal).toArray B fun e B' => (e = .returned (.bool true) ∧ J (k + 1) B') ∨ (e = .returned (.bool false) ∧ Jx B')) →
    J 0 W → CallsIn Fence.wide 0 P g (#[.func (.yield l) #[] #[]] ++ us) W fun e B => (∃ v, e = .returned v) ∧ (J xs.length B ∨ Jx B)
def HandsG (P : Program) (g : FuncId) (start : List AV → AHeap → Option (AV × AHeap)) (next : Nat → AV → AHeap → Option (Option (List AV × Bool) × AHeap)) : Prop :=
  ∀ (caps : List AV) (us : Array Value) (l : Nat) (st : AV) (H H0 : AHeap) (J Jx : World → (Nat → Prop) → (Nat → Nat) → AHeap → Prop) (Q : Nat → Nat → AHeap → Prop) (R : Nat → Nat → Bool → List AV → AHeap → Prop) (Z Zx : AHeap → Prop)
    (W : World) (F : Nat → Prop) (m : Nat → Nat) (n : Nat),
    start caps H = some (st, H0) → Inv W F (Nx H) m H → RLs W F (Nx H) m caps us → J W F m H → Q n 0 H0 →
    (∀ B F1 m1 H1 B' F2 m2 H2, J B F1 m1 H1 → Inv B F1 (Nx H1) m1 H1 → Evo B F1 (Nx H1) m1 H1 B' F2 (Nx H2) m2 H2 → J B' F2 m2 H2) →
    (∀ B F1 m1 H1 B' F2 m2 H2, Jx B F1 m1 H1 → Inv B F1 (Nx H1) m1 H1 → Evo B F1 (Nx H1) m1 H1 B' F2 (Nx H2) m2 H2 → Jx B' F2 m2 H2) →
    (∀ k H, ¬ Q 0 k H) → (∀ n k H, Q (n + 1) k H → (∃ H1, next k st H = some (none, H1) ∧ Z H1) ∨ ∃ xs more H1, next k st H = some (some (xs, more), H1) ∧ R n k more xs H1) →
    (∀ n k more xs B F1 m1 H1 vs, J B F1 m1 H1 → Inv B F1 (Nx H1) m1 H1 → R n k more xs H1 → RLs B F1 (Nx H1) m1 xs vs → YieldAt Fence.wide 0 P l vs B fun e B' => ∃ F2 m2 H2, Inv B' F2 (Nx H2) m2 H2 ∧ (∀ a v, RV B F1 (Nx H1) m1 a v → RV B' F2 (Nx H2) m2 a v) ∧
      ((e = .returned (.bool true) ∧ J B' F2 m2 H2 ∧ (more = true → Q n (k + 1) H2) ∧ (more = false → Z H2)) ∨ (e = .returned (.bool false) ∧ Jx B' F2 m2 H2 ∧ Zx H2))) →
    CallsIn Fence.wide 0 P g (#[.func (.yield l) #[] #[]] ++ us) W fun e B => (∃ v, e = .returned v) ∧ ∃ F' m' H', Inv B F' (Nx H') m' H' ∧ ((J B F' m' H' ∧ Z H') ∨ (Jx B F' m' H' ∧ Zx H'))
def Sound (P : Program) (f : FuncId) : Con → Prop
  | .pure keep spec => Callable P f ∧ ∀ args r, spec args = some r → ∀ w F vs, (∀ cb, F cb → cb < w.heap.size) → RLs w F (fun _ => False) id args vs →
      Calls P f vs w fun e w' => ∃ v, e = .returned v ∧ RowKit.Below w.heap.size w w' ∧ RV w' (fun cb => F cb ∨ (keep = true ∧ cb < w.heap.size)) (fun _ => False) id r v
  | .ref _ spec => Callable P f ∧ ∀ args H r H', spec args H = some (r, H') → ∀ w F m vs, Inv w F (Nx H) m H → RLs w F (Nx H) m args vs →
      Calls P f vs w fun e w' => ∃ v F' m', e = .returned v ∧ Inv w' F' (Nx H') m' H' ∧ RV w' F' (Nx H') m' r v ∧ Evo w F (Nx H) m H w' F' (Nx H') m' H'
  | .iter spec => Callable P f ∧ Hands P f spec
  | .gen start next => Callable P f ∧ HandsG P f start next
section
variable {P : Program} {w : World} {F A : Nat → Prop} {m : Nat → Nat} {H : AHeap}
def less (F : Nat → Prop) (m : Nat → Nat) (S : List Nat) : Nat → Prop := fun cb => F cb ∧ ∀ b, b ∈ S → m b ≠ cb
theorem RV.less {a : AV} {v : Value} (S : List Nat) (h : RV w F A m a v) : RV w (less F m S) A m a v :=
  h.mono (Nat.le_refl _) (fun _ _ => rfl) (fun _ _ _ => rfl) (fun _ _ h => h.1) (fun _ h => ⟨h, rfl⟩)
theorem RV.lesser {a : AV} {v : Value} {S T : List Nat} (hs : ∀ b, b ∈ S → b ∈ T) (h : RV w (Abs.less F m S) A m a v) : RV w (Abs.less F m T) A m a v :=
  h.mono (Nat.le_refl _) (fun _ _ => rfl) (fun _ _ _ => rfl) (fun _ _ h => ⟨h.1, fun b hb => h.2 b (hs b hb)⟩) (fun _ h => ⟨h, rfl⟩)
theorem frzCell_sound {n : Option Nat} {a a' : AV} {S : List Nat} {v : Value} (h : frzCell H n a = some (a', S)) (I : Inv w F A m H) (hx : RV w F A m a v) :
    RV w (less F m S) A m a' v ∧ a'.flat = true ∧ ∀ b, b ∈ S → ∃ blk, H.get b = some blk := by
  unfold frzCell at h
  split at h
  · rename_i b sz off len
    split at h <;> try (cases h; done)
    rename_i blk hb
    split at h <;> try (cases h; done)
    rename_i hok
    obtain ⟨hfl, hsz, hfit⟩ := hok
    simp only [Option.some.injEq, Prod.mk.injEq] at h
    obtain ⟨rfl, rfl⟩ := h
    obtain ⟨c, hc, hr⟩ := I.blk b blk hb
    refine ⟨?_, rfl, fun b' hb' => by simp at hb'; subst hb'; exact ⟨_, hb⟩⟩
    cases hx with
    | sl b sz off len cap e hA hcap hm hs =>
      have hlen : ((blk.rows.drop off).take len).length = len := by simp; omega
      have hget : ∀ (i : Nat) (row : List AV), ((blk.rows.drop off).take len)[i]? = some row → blk.rows[off + i]? = some row := fun i row h => by
        rw [List.getElem?_take] at h
        split at h
        · rwa [List.getElem?_drop] at h
        · cases h
      have hex : ∀ (i : Nat) (row : List AV) (j : Nat) (a : AV), ((blk.rows.drop off).take len)[i]? = some row → row[j]? = some a →
          ∃ v, c[(off + i) * sz + j]? = some v ∧ v.oneCell' = true ∧ RV w F A m a v := fun i row j a h1 h2 => by
        have := hr.cell (off + i) row j a (hget i row h1) h2
        rwa [hsz] at this
      have := RV.rsl (w := w) (F := less F m [b]) (A := A) (m := m) sz ((blk.rows.drop off).take len) (m b) (off * sz) cap (fun i j => (c[(off + i) * sz + j]?).getD undef)
        (fun h => h.2 b (by simp) rfl) (I.bound _ (I.own b blk hb).2) (by omega)
        (fun row hrow => by rw [← hsz]; exact hr.wide row (List.mem_of_mem_drop (List.mem_of_mem_take hrow)))
        (fun row hrow => hr.flat hfl row (List.mem_of_mem_drop (List.mem_of_mem_take hrow)))
        (fun i row j a h1 h2 => by
          obtain ⟨v, q1, q2, _⟩ := hex i row j a h1 h2
          have e1 : (off + i) * sz + j = off * sz + (i * sz + j) := by rw [Nat.add_mul, Nat.add_assoc]
          rw [cell_of_row w (m b) _ c blk.e (0, 0) hc, ← e1, q1]
          exact ⟨rfl, q2⟩)
        (fun i row j a h1 h2 => by
          obtain ⟨v, q1, _, q3⟩ := hex i row j a h1 h2
          rw [q1]
          exact q3.less [b])
      rw [hlen] at this
      exact this
  · cases hx
    split at h
    · simp only [Option.some.injEq, Prod.mk.injEq] at h
      obtain ⟨rfl, rfl⟩ := h
      exact ⟨.rsl0 _ _ _ fun _ => rfl, rfl, by simp⟩
    · simp only [Option.some.injEq, Prod.mk.injEq] at h
      obtain ⟨rfl, rfl⟩ := h
      exact ⟨.nils, rfl, by simp⟩
  · simp only [Option.some.injEq, Prod.mk.injEq] at h
    obtain ⟨rfl, rfl⟩ := h
    cases hx
    exact ⟨.rsl0 _ _ _ (fun h => by cases h), rfl, by simp⟩
  · split at h <;> try (cases h; done)
    rename_i hfl
    simp only [Option.some.injEq, Prod.mk.injEq] at h
    obtain ⟨rfl, rfl⟩ := h
    exact ⟨hx.less [], hfl, by simp⟩
theorem frzCells_sound (I : Inv w F A m H) : ∀ (l : List (Option Nat)) (cs cs' : List AV) (S : List Nat) (vs : List Value), frzCells H l cs = some (cs', S) → RL w F A m cs vs →
    RL w (less F m S) A m cs' vs ∧ cs'.all AV.flat = true ∧ ∀ b, b ∈ S → ∃ blk, H.get b = some blk
  | [], [], cs', S, vs, h, hr => by
    simp only [frzCells, Option.some.injEq, Prod.mk.injEq] at h
    obtain ⟨rfl, rfl⟩ := h
    exact ⟨⟨hr.1, by simp⟩, rfl, by simp⟩
  | [], _ :: _, _, _, _, h, _ => by simp [frzCells] at h
  | _ :: _, [], _, _, _, h, _ => by simp [frzCells] at h
  | n :: l, a :: cs, cs', S, [], h, hr => by have := hr.1; simp at this
  | n :: l, a :: cs, cs', S, v :: vs, h, hr => by
    simp only [frzCells] at h
    split at h
    · rename_i a' S1 cs1 S2 h1 h2
      simp only [Option.some.injEq, Prod.mk.injEq] at h
      obtain ⟨rfl, rfl⟩ := h
      obtain ⟨q1, q2, q3⟩ := frzCell_sound h1 I (hr.2 0 a v rfl rfl)
      obtain ⟨p1, p2, p3⟩ := frzCells_sound I l cs cs1 S2 vs h2 ⟨by simpa using hr.1, fun i a v h1 h2 => hr.2 (i + 1) a v (by simpa using h1) (by simpa using h2)⟩
      refine ⟨⟨by simp [p1.1], fun i b u h3 h4 => ?_⟩, by simp [q2]; simpa using p2, fun b hb => ?_⟩
      · cases i with
        | zero => simp at h3 h4; subst h3 h4; exact q1.lesser (by simp; intro b hb; exact .inl hb)
        | succ i => exact (p1.2 i b u (by simpa using h3) (by simpa using h4)).lesser (by intro b hb; simp [hb])
      · rcases List.mem_append.1 hb with hb | hb
        · exact q3 b hb
        · exact p3 b hb
    · cases h
theorem frz_sound {l : List (Option Nat)} {a a' : AV} {S : List Nat} {v : Value} (h : frz H l a = some (a', S)) (I : Inv w F A m H) (hx : RV w F A m a v) :
    RV w (less F m S) A m a' v ∧ a'.closed = true ∧ (∀ vs, a' ≠ .tup vs) ∧ ∀ b, b ∈ S → ∃ blk, H.get b = some blk := by
  unfold frz at h
  split at h
  · split at h <;> try (cases h; done)
    rename_i cs _ cs' S' h1
    simp only [Option.some.injEq, Prod.mk.injEq] at h
    obtain ⟨rfl, rfl⟩ := h
    cases hx with
    | agg cs vs hl hc =>
      obtain ⟨q1, q2, q3⟩ := frzCells_sound I l cs cs' S' vs.toList h1 ⟨by simpa using hl, fun i a v h1 h2 => hc i a v h1 (by simpa using h2)⟩
      exact ⟨.agg _ _ (by simpa using q1.1) (fun i a v h1 h2 => q1.2 i a v h1 (by simpa using h2)), q2, (fun vs h => by cases h), q3⟩
  · obtain ⟨q1, q2, q3⟩ := frzCell_sound h I hx
    refine ⟨q1, ?_, ?_, q3⟩
    · cases a' <;> simp_all [AV.closed, AV.flat]
    · intro vs e; subst e; simp [AV.flat] at q2
theorem RV.flat_any {A' : Nat → Prop} {m' : Nat → Nat} {a : AV} {v : Value} (h : RV w F A m a v) (hf : a.flat = true) : RV w F A' m' a v := by
  induction h with
  | int k n => exact .int k n
  | bool b => exact .bool b
  | str s => exact .str s
  | nilp => exact .nilp
  | nils => exact .nils
  | nilf => exact .nilf
  | esl sz a cap => exact .esl sz a cap
  | rsl0 sz a cap h0 => exact .rsl0 sz a cap h0
  | rsl sz rows cb co cap val hF hb hc hr hfl hv _ ih =>
    exact .rsl sz rows cb co cap val hF hb hc hr hfl hv fun i row j a h1 h2 => ih i row j a h1 h2 (hfl row (List.mem_of_getElem? h1) a (List.mem_of_getElem? h2))
  | _ => simp [AV.flat] at hf
theorem RV.closed_any {A' : Nat → Prop} {m' : Nat → Nat} {a : AV} {v : Value} (h : RV w F A m a v) (hf : a.closed = true) : RV w F A' m' a v := by
  have cell : ∀ {a : AV} {v : Value}, RV w F A m a v → (match a with | .agg cs => cs.all AV.flat | v => v.flat) = true → RV w F A' m' a v := by
    intro a v h hf
    split at hf
    · cases h with
      | agg cs vs hl hc => exact .agg _ _ hl fun i a v h1 h2 => (hc i a v h1 h2).flat_any (List.all_eq_true.1 hf a (List.mem_of_getElem? h1))
    · exact h.flat_any hf
  cases a with
  | tup vs =>
    cases h with
    | tup cs us hl hc => exact .tup _ _ hl fun i a v h1 h2 => cell (hc i a v h1 h2) (by have := List.all_eq_true.1 hf a (List.mem_of_getElem? h1); exact this)
  | _ => exact cell h hf
theorem RV.noSl_any {F' : Nat → Prop} {w' : World} {a : AV} {v : Value} (h : RV w F A m a v) (hf : a.noSl = true) {A' : Nat → Prop} {m' : Nat → Nat} : RV w' F' A' m' a v := by
  have cellC : ∀ {a : AV} {v : Value}, RV w F A m a v → a.noSlC = true → RV w' F' A' m' a v := by
    intro a v h hf
    cases h <;> first | (simp [AV.noSlC] at hf; done) | constructor
  have cell : ∀ {a : AV} {v : Value}, RV w F A m a v → (match a with | .agg cs => cs.all AV.noSlC | v => v.noSlC) = true → RV w' F' A' m' a v := by
    intro a v h hf
    split at hf
    · cases h with
      | agg cs vs hl hc => exact .agg _ _ hl fun i a v h1 h2 => cellC (hc i a v h1 h2) (List.all_eq_true.1 hf a (List.mem_of_getElem? h1))
    · exact cellC h hf
  cases a with
  | tup vs =>
    cases h with
    | tup cs us hl hc => exact .tup _ _ hl fun i a v h1 h2 => cell (hc i a v h1 h2) (by have := List.all_eq_true.1 hf a (List.mem_of_getElem? h1); exact this)
  | _ => exact cell h hf
theorem frzArgs_sound (I : Inv w F A m H) : ∀ (l : List (List (Option Nat))) (cs cs' : List AV) (S : List Nat) (vs : List Value), frzArgs H l cs = some (cs', S) → RL w F A m cs vs →
    RL w (less F m S) (fun _ => False) id cs' vs ∧ ∀ b, b ∈ S → ∃ blk, H.get b = some blk
  | [], [], cs', S, vs, h, hr => by
    simp only [frzArgs, Option.some.injEq, Prod.mk.injEq] at h
    obtain ⟨rfl, rfl⟩ := h
    exact ⟨⟨hr.1, by simp⟩, by simp⟩
  | [], _ :: _, _, _, _, h, _ => by simp [frzArgs] at h
  | _ :: _, [], _, _, _, h, _ => by simp [frzArgs] at h
  | n :: l, a :: cs, cs', S, [], h, hr => by have := hr.1; simp at this
  | n :: l, a :: cs, cs', S, v :: vs, h, hr => by
    simp only [frzArgs] at h
    split at h
    · rename_i a' S1 cs1 S2 h1 h2
      simp only [Option.some.injEq, Prod.mk.injEq] at h
      obtain ⟨rfl, rfl⟩ := h
      obtain ⟨q1, q2, _, q3⟩ := frz_sound h1 I (hr.2 0 a v rfl rfl)
      obtain ⟨p1, p3⟩ := frzArgs_sound I l cs cs1 S2 vs h2 ⟨by simpa using hr.1, fun i a v h1 h2 => hr.2 (i + 1) a v (by simpa using h1) (by simpa using h2)⟩
      refine ⟨⟨by simp [p1.1], fun i b u h3 h4 => ?_⟩, fun b hb => ?_⟩
      · cases i with
        | zero => simp at h3 h4; subst h3 h4; exact (q1.lesser (T := S1 ++ S2) (by intro b hb; simp [hb])).closed_any q2
        | succ i =>
          refine (p1.2 i b u (by simpa using h3) (by simpa using h4)).mono (Nat.le_refl _) (fun _ _ => rfl) (fun _ _ _ => rfl) (fun cb _ hcb => ⟨hcb.1, fun b hb => hcb.2 b (by simp [hb])⟩) (fun _ h => h.elim)
      · rcases List.mem_append.1 hb with hb | hb
        · exact q3 b hb
        · exact p3 b hb
    · cases h
theorem frzMask_sound (I : Inv w F A m H) : ∀ (ms : List Bool) (l : List (List (Option Nat))) (cs cs' : List AV) (S : List Nat) (vs : List Value), frzMask H ms l cs = some (cs', S) → RL w F A m cs vs →
    RL w (less F m S) A m cs' vs ∧ ∀ b, b ∈ S → ∃ blk, H.get b = some blk
  | [], l, cs, cs', S, vs, h, hr => by
    simp only [frzMask, Option.some.injEq, Prod.mk.injEq] at h
    obtain ⟨rfl, rfl⟩ := h
    exact ⟨⟨hr.1, fun i a v h1 h2 => (hr.2 i a v h1 h2).less []⟩, by simp⟩
  | true :: ms, [], _, _, _, _, h, _ => by simp [frzMask] at h
  | false :: ms, [], _, _, _, _, h, _ => by simp [frzMask] at h
  | true :: ms, _ :: _, [], _, _, _, h, _ => by simp [frzMask] at h
  | false :: ms, _ :: _, [], _, _, _, h, _ => by simp [frzMask] at h
  | _ :: ms, n :: l, a :: cs, cs', S, [], h, hr => by have := hr.1; simp at this
  | true :: ms, n :: l, a :: cs, cs', S, v :: vs, h, hr => by
    simp only [frzMask] at h
    split at h
    · rename_i a' S1 cs1 S2 h1 h2
      simp only [Option.some.injEq, Prod.mk.injEq] at h
      obtain ⟨rfl, rfl⟩ := h
      obtain ⟨q1, q2, _, q3⟩ := frz_sound h1 I (hr.2 0 a v rfl rfl)
      obtain ⟨p1, p3⟩ := frzMask_sound I ms l cs cs1 S2 vs h2 ⟨by simpa using hr.1, fun i a v h1 h2 => hr.2 (i + 1) a v (by simpa using h1) (by simpa using h2)⟩
      refine ⟨⟨by simp [p1.1], fun i b u h3 h4 => ?_⟩, fun b hb => ?_⟩
      · cases i with
        | zero => simp at h3 h4; subst h3 h4; exact q1.lesser (by intro b hb; simp [hb])
        | succ i => exact (p1.2 i b u (by simpa using h3) (by simpa using h4)).lesser (by intro b hb; simp [hb])
      · rcases List.mem_append.1 hb with hb | hb
        · exact q3 b hb
        · exact p3 b hb
    · cases h
  | false :: ms, n :: l, a :: cs, cs', S, v :: vs, h, hr => by
    simp only [frzMask] at h
    split at h
    · rename_i cs1 S2 h2
      simp only [Option.some.injEq, Prod.mk.injEq] at h
      obtain ⟨rfl, rfl⟩ := h
      obtain ⟨p1, p3⟩ := frzMask_sound I ms l cs cs1 S2 vs h2 ⟨by simpa using hr.1, fun i a v h1 h2 => hr.2 (i + 1) a v (by simpa using h1) (by simpa using h2)⟩
      refine ⟨⟨by simp [p1.1], fun i b u h3 h4 => ?_⟩, p3⟩
      cases i with
      | zero => simp at h3 h4; subst h3 h4; exact (hr.2 0 a v rfl rfl).less S2
      | succ i => exact p1.2 i b u (by simpa using h3) (by simpa using h4)
    · cases h
theorem killAll_sound (I : Inv w F A m H) {S : List Nat} (hS : ∀ b, b ∈ S → ∃ blk, H.get b = some blk) :
    Inv w (less F m S) A m (H.killAll S) ∧ Evo w F A m H w (less F m S) A m (H.killAll S) := by
  have hg : ∀ b x, (H.killAll S).get b = some x → b ∉ S ∧ H.get b = some x := fun b x h => by
    simp only [AHeap.killAll] at h
    split at h
    · cases h
    · rename_i hb; exact ⟨hb, h⟩
  refine ⟨⟨fun b x h => ?_, fun b x h => ?_, fun b b' x y h h' => ?_, fun cb h => I.bound cb h.1⟩,
    ⟨rfl, rfl, rfl, Nat.le_refl _, fun _ _ => rfl, fun _ _ _ => rfl, fun _ h => .inl h.1, fun cb _ hF hn => ⟨hF, fun b hb => ?_⟩, fun _ h => ⟨h, rfl⟩, fun b x h => .inl ⟨b, x, (hg b x h).2, rfl⟩⟩⟩
  · obtain ⟨h1, h2⟩ := hg b x h
    refine ⟨(I.own b x h2).1, (I.own b x h2).2, fun b' hb' he => ?_⟩
    obtain ⟨y, hy⟩ := hS b' hb'
    exact h1 (I.inj _ _ _ _ hy h2 he ▸ hb')
  · obtain ⟨h1, h2⟩ := hg b x h
    obtain ⟨c, hc, hr⟩ := I.blk b x h2
    exact ⟨c, hc, hr.fits, hr.wide, hr.flat, fun i row j a h1 h2 => let ⟨v, q1, q2, q3⟩ := hr.cell i row j a h1 h2; ⟨v, q1, q2, q3.less S⟩⟩
  · exact I.inj b b' x y (hg b x h).2 (hg b' y h').2
  · obtain ⟨y, hy⟩ := hS b hb
    exact hn b y hy
theorem evo_below {w' : World} (hb : RowKit.Below w.heap.size w w') : Evo w F A m H w' F A m H where
  os := hb.os
  tape := hb.tape
  output := hb.output
  size := hb.size
  shape := fun cb hcb => shape?_of_heap (hb.block cb hcb)
  same := fun cb hcb _ => hb.block cb hcb
  forb := fun _ h => .inl h
  keep := fun _ _ h _ => h
  ext := fun _ h => ⟨h, rfl⟩
  owns := fun b x h => .inl ⟨b, x, h, rfl⟩
theorem inv_below {w' : World} (I : Inv w F A m H) (hb : RowKit.Below w.heap.size w w') : Inv w' F A m H where
  own := I.own
  inj := I.inj
  bound := fun cb h => Nat.lt_of_lt_of_le (I.bound cb h) hb.size
  blk := fun b x h => by
    obtain ⟨c, hc, hr⟩ := I.blk b x h
    refine ⟨c, by rw [hb.block _ (I.bound _ (I.own b x h).2)]; exact hc, hr.fits, hr.wide, hr.flat, fun i row j a h1 h2 => ?_⟩
    obtain ⟨v, q1, q2, q3⟩ := hr.cell i row j a h1 h2
    exact ⟨v, q1, q2, (evo_below (H := H) hb).rv I q3⟩
theorem acall_sound {c : Option Con} {f : FuncId} {tys : List TypeId} {args : List AV} {vs : Array Value} {z : AV} {H' : AHeap} (h : acall P c tys args H = some (z, H')) (hc : ∀ k, c = some k → Sound P f k)
    (I : Inv w F (Nx H) m H) (ha : RLs w F (Nx H) m args vs) :
    Callable P f ∧ Calls P f vs w fun e w' => ∃ v F' m', e = .returned v ∧ Inv w' F' (Nx H') m' H' ∧ RV w' F' (Nx H') m' z v ∧ Evo w F (Nx H) m H w' F' (Nx H') m' H' := by
  unfold acall acallR at h
  split at h
  · rename_i keep spec l _
    obtain ⟨hcl, hs⟩ := hc _ rfl
    refine ⟨hcl, ?_⟩
    unfold callP at h
    split at h <;> try (cases h; done)
    rename_i args' S hfr
    split at h <;> try (cases h; done)
    rename_i r hr
    split at h <;> try (cases h; done)
    rename_i hcd
    obtain ⟨q1, q2⟩ := frzArgs_sound I l args args' S vs.toList hfr ha
    refine (hs args' r hr w (less F m S) vs (fun cb h => I.bound cb h.1) q1).mono ?_
    rintro e w' ⟨v, rfl, hb, hv⟩
    split at h
    · rename_i hcase
      simp only [Option.some.injEq, Prod.mk.injEq] at h
      obtain ⟨rfl, rfl⟩ := h
      refine ⟨v, F, m, rfl, inv_below I hb, ?_, evo_below hb⟩
      rcases hcase with rfl | hns | rfl
      · have : less F m [] = F := by funext cb; simp [less]
        rw [this] at hv
        exact (hv.mono (F' := F) (Nat.le_refl _) (fun _ _ => rfl) (fun _ _ _ => rfl) (fun _ _ h => .inl h) (fun _ h => ⟨h, rfl⟩)).closed_any hcd
      · exact hv.noSl_any hns
      · exact (hv.mono (F' := F) (Nat.le_refl _) (fun _ _ => rfl) (fun _ _ _ => rfl) (fun cb _ h => .inr ⟨rfl, I.bound cb h⟩) (fun _ h => ⟨h, rfl⟩)).closed_any hcd
    · simp only [Option.some.injEq, Prod.mk.injEq] at h
      obtain ⟨rfl, rfl⟩ := h
      obtain ⟨I1, E1⟩ := killAll_sound I q2
      exact ⟨v, less F m S, m, rfl, inv_below I1 hb, (hv.mono (F' := less F m S) (Nat.le_refl _) (fun _ _ => rfl) (fun _ _ _ => rfl) (fun _ _ h => .inl h) (fun _ h => ⟨h, rfl⟩)).closed_any hcd, E1.trans (evo_below hb)⟩
  · rename_i fz spec l _
    obtain ⟨hcl, hs⟩ := hc _ rfl
    refine ⟨hcl, ?_⟩
    unfold callM at h
    split at h <;> try (cases h; done)
    rename_i args' S hfr
    obtain ⟨q1, q2⟩ := frzMask_sound I fz l args args' S vs.toList hfr ha
    split at h
    · rename_i hS
      subst hS
      have : less F m [] = F := by funext cb; simp [less]
      rw [this] at q1
      exact hs args' H z H' h w F m vs I q1
    · obtain ⟨I1, E1⟩ := killAll_sound I q2
      refine (hs args' (H.killAll S) z H' h w (less F m S) m vs I1 q1).mono ?_
      rintro e w' ⟨v, F', m', rfl, p1, p2, p3⟩
      exact ⟨v, F', m', rfl, p1, p2, Evo.trans (H' := H.killAll S) E1 p3⟩
  · cases h
end
end Go.Abs
end
