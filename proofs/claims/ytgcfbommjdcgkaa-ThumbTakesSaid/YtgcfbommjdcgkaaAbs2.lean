/-
  Abstract operations that touch no memory, and that the model's do as they say.
-/
import Derived.Test.YtgcfbommjdcgkaaAbs1
import Derived.Laws.Small
import Derived.Laws.Pointers
import Derived.Laws.StructEq
import Derived.ChangeKeysEq
import Derived.Laws.Cover3
set_option linter.unusedSimpArgs false
set_option linter.unusedVariables false
namespace Go.Abs

def ofCell : Value → AV
  | .int k n => .int k n
  | .bool b => .bool b
  | .string s => .str s
  | .pointer none => .nilp
  | .slice none 0 0 => .nils
  | .nilFunc => .nilf
  | _ => .undef

def ofConst : Value → AV
  | .agg cs => .agg (cs.toList.map ofCell)
  | v => ofCell v

def AFr.eval (fr : AFr) : Operand → AV
  | .tmp t => fr t
  | .const v => ofConst v
  | .global _ => .undef
  | .func f => .clo f [] []

def szOf (P : Program) (t : TypeId) : Option Nat := (P.info? t).map (·.size)

def aggT (P : Program) (t : TypeId) : Option Bool :=
  match P.underlying t with
  | some (.struct _) | some (.array _ _) => some true
  | some _ => some false
  | none => none

/-- How a type is read: one cell, or so many. -/
def rdOf (P : Program) (t : TypeId) : Option (Option Nat) :=
  match aggT P t, szOf P t with
  | some true, some n => some (some n)
  | some false, some _ => some none
  | _, _ => none

def apartR (r : Option (Option Nat)) (cs : List AV) (off : Nat) : Option AV :=
  match r with
  | some (some n) => some (.agg ((cs.drop off).take n))
  | some none => cs[off]?
  | none => none

def apart (P : Program) (t : TypeId) (cs : List AV) (off : Nat) : Option AV := apartR (rdOf P t) cs off

theorem apart_old (P : Program) (t : TypeId) (cs : List AV) (off : Nat) : apart P t cs off =
    match aggT P t, szOf P t with
    | some true, some n => some (.agg ((cs.drop off).take n))
    | some false, some _ => cs[off]?
    | _, _ => none := by
  unfold apart rdOf
  cases aggT P t with
  | none => cases szOf P t <;> rfl
  | some b => cases b <;> cases szOf P t <;> rfl

def aarith (op : BinOp) (k : IntKind) (a b : Int) : Option AV :=
  match op with
  | .add => some (.int k (k.wrap (a + b)))
  | .sub => some (.int k (k.wrap (a - b)))
  | .mul => some (.int k (k.wrap (a * b)))
  | .quo => if b = 0 then none else some (.int k (k.wrap (a.tdiv b)))
  | .rem => if b = 0 then none else some (.int k (a.tmod b))
  | .and => some (.int k (k.wrap (BitVec.ofInt k.bits a &&& BitVec.ofInt k.bits b).toNat))
  | .or => some (.int k (k.wrap (BitVec.ofInt k.bits a ||| BitVec.ofInt k.bits b).toNat))
  | .xor => some (.int k (k.wrap (BitVec.ofInt k.bits a ^^^ BitVec.ofInt k.bits b).toNat))
  | .andNot => some (.int k (k.wrap (BitVec.ofInt k.bits a &&& ~~~ BitVec.ofInt k.bits b).toNat))
  | .eql => some (.bool (a == b))
  | .neq => some (.bool (a != b))
  | .lss => some (.bool (a < b))
  | .leq => some (.bool (a ≤ b))
  | .gtr => some (.bool (a > b))
  | .geq => some (.bool (a ≥ b))
  | .shl | .shr => none

def ashift (op : BinOp) (k : IntKind) (a b : Int) : Option AV :=
  if b < 0 then none else
  match op with
  | .shl => some (.int k (k.wrap (a * 2 ^ (min b.toNat k.bits))))
  | .shr => some (.int k (a.fdiv (2 ^ (min b.toNat k.bits))))
  | _ => none

def isShift : BinOp → Bool
  | .shl | .shr => true
  | _ => false

/-- What a cell of a comparable type is. -/
inductive CK where
  | i | b | t
  deriving DecidableEq

/-- What two values are compared as. -/
inductive QK where
  | b | p | s | t | x
  | c (l : List CK)

def ceq : CK → AV → AV → Option Bool
  | .i, .int k a, .int k' b => if k = k' then some (a == b) else none
  | .b, .bool a, .bool b => some (a == b)
  | .t, .str a, .str b => some (a == b)
  | _, _, _ => none

def ceqs : List CK → List AV → List AV → Option Bool
  | k :: ks, a :: as, b :: bs => match ceq k a b, ceqs ks as bs with
    | some x, some y => some (x && y)
    | _, _ => none
  | [], [], [] => some true
  | _, _, _ => none

def repK (l : List CK) : Nat → List CK
  | 0 => []
  | n + 1 => l ++ repK l n

mutual
/-- A comparable type's cells. -/
def eqK (P : Program) : Nat → TypeId → Option (List CK)
  | 0, _ => none
  | d + 1, t =>
    match P.underlying t with
    | some (.int _) => some [.i]
    | some .bool => some [.b]
    | some .string => some [.t]
    | some (.struct fs) => if P.stoodInHeld t = false then eqKs P d 0 fs.toList else none
    | some (.array n e) => match eqK P d e, P.info? e with | some l, some i => if l.length = i.size then some (repK l n) else none | _, _ => none
    | _ => none
def eqKs (P : Program) : Nat → Nat → List Field → Option (List CK)
  | _, _, [] => some []
  | 0, _, _ :: _ => none
  | d + 1, off, f :: fs =>
    match P.info? f.type, eqK P d f.type, eqKs P d (off + ((P.info? f.type).map (·.size)).getD 0) fs with
    | some i, some l, some ls => if f.name ≠ "_" ∧ f.offset = off ∧ l.length = i.size then some (l ++ ls) else none
    | _, _, _ => none
end

def qkOf (P : Program) (t : TypeId) : QK :=
  match P.underlying t with
  | some .bool => .b
  | some (.pointer _) => .p
  | some (.slice _) => .s
  | some .string => .t
  | some (.struct _) | some (.array _ _) => if P.eqGuardType P.depth t = false then (match eqK P 64 t with | some l => .c l | none => .x) else .x
  | _ => .x

def eqRes (op : BinOp) (r : Bool) : Option AV := match op with | .eql => some (.bool r) | .neq => some (.bool !r) | _ => none

def abinR (q : QK) (op : BinOp) (x y : AV) : Option AV :=
  match x, y with
  | .int k a, .int k' b => if isShift op then ashift op k a b else if k = k' then aarith op k a b else none
  | .bool a, .bool b => match q with | .b => eqRes op (a == b) | _ => none
  | .str a, .str b => match q with | .t => eqRes op (a == b) | _ => none
  | .ptr .., .nilp | .rptr .., .nilp => match q with | .p => eqRes op false | _ => none
  | .nilp, .nilp => match q with | .p => eqRes op true | _ => none
  | .sl .., .nils | .esl _, .nils | .rsl _ (_ :: _), .nils => match q with | .s => eqRes op false | _ => none
  | .nils, .nils => match q with | .s => eqRes op true | _ => none
  | .agg cs, .agg ds => match q with | .c l => (match ceqs l cs ds with | some r => eqRes op r | none => none) | _ => none
  | _, _ => none

def abin (P : Program) (op : BinOp) (t : TypeId) (x y : AV) : Option AV := abinR (qkOf P t) op x y

def aun (op : UnOp) (x : AV) : Option AV :=
  match op, x with
  | .neg, .int k n => aarith .sub k 0 n
  | .xor, .int k n => aarith .xor k (if k.signed then -1 else k.max) n
  | .not, .bool b => some (.bool !b)
  | _, _ => none

def convK (P : Program) (s d : TypeId) : Option IntKind :=
  match P.underlying s, P.underlying d with
  | some _, some (.int k) => some k
  | _, _ => none

def aconvR (k : Option IntKind) (x : AV) : Option AV :=
  match k, x with
  | some k, .int _ n => some (.int k (k.wrap n))
  | _, _ => none

def aconv (P : Program) (s d : TypeId) (x : AV) : Option AV := aconvR (convK P s d) x

theorem aconv_old (P : Program) (s d : TypeId) (x : AV) : aconv P s d x =
    match P.underlying s, P.underlying d, x with
    | some _, some (.int k), .int _ n => some (.int k (k.wrap n))
    | _, _, _ => none := by
  unfold aconv convK
  cases P.underlying s with
  | none => cases P.underlying d <;> rfl
  | some _ =>
    cases P.underlying d with
    | none => rfl
    | some e => cases e <;> cases x <;> rfl

def abound (x : Option AV) (dflt most : Nat) : Option Nat :=
  match x with
  | none => some dflt
  | some (.int _ i) => if 0 ≤ i ∧ i ≤ most then some i.toNat else none
  | some _ => none

/-- What is sliced: a slice of elements of so many cells, or a string. -/
inductive SK where
  | no | sl (n : Nat) | str

def skOf (P : Program) (t : TypeId) : SK :=
  match P.underlying t with
  | some (.slice e) => match szOf P e with
    | some n => .sl n
    | none => .no
  | some .string => .str
  | _ => .no

def asliceR (k : SK) (x : AV) (lo hi mx : Option AV) : Option AV :=
  match k, mx with
  | .sl n, none =>
    match x with
    | .rsl sz rows =>
      match abound hi rows.length rows.length with
      | some h => match abound lo 0 h with
        | some l => if n = sz then some (.rsl sz ((rows.take h).drop l)) else none
        | none => none
      | none => none
    | .sl b sz off len =>
      match abound hi len len with
      | some h => match abound lo 0 h with
        | some l => if n = sz then (if l = 0 then some (.sl b sz off h) else if l < h then some (.sl b sz (off + l) (h - l)) else some (.rsl sz [])) else none
        | none => none
      | none => none
    | .nils =>
      match abound hi 0 0 with
      | some h => match abound lo 0 h with
        | some _ => some .nils
        | none => none
      | none => none
    | _ => none
  | .str, none =>
    match x with
    | .str s =>
      match abound hi s.size s.size with
      | some h => match abound lo 0 h with
        | some l => some (.str (s.extract l h))
        | none => none
      | none => none
    | _ => none
  | _, _ => none

def aslice (P : Program) (t : TypeId) (x : AV) (lo hi mx : Option AV) : Option AV := asliceR (skOf P t) x lo hi mx

theorem aslice_old (P : Program) (t : TypeId) (x : AV) (lo hi mx : Option AV) : aslice P t x lo hi mx =
    match P.underlying t, mx with
    | some (.slice e), none =>
      match szOf P e, x with
      | some n, .rsl sz rows =>
        match abound hi rows.length rows.length with
        | some h => match abound lo 0 h with
          | some l => if n = sz then some (.rsl sz ((rows.take h).drop l)) else none
          | none => none
        | none => none
      | some n, .sl b sz off len =>
        match abound hi len len with
        | some h => match abound lo 0 h with
          | some l => if n = sz then (if l = 0 then some (.sl b sz off h) else if l < h then some (.sl b sz (off + l) (h - l)) else some (.rsl sz [])) else none
          | none => none
        | none => none
      | some n, .nils =>
        match abound hi 0 0 with
        | some h => match abound lo 0 h with
          | some _ => some .nils
          | none => none
        | none => none
      | _, _ => none
    | some .string, none =>
      match x with
      | .str s =>
        match abound hi s.size s.size with
        | some h => match abound lo 0 h with
          | some l => some (.str (s.extract l h))
          | none => none
        | none => none
      | _ => none
    | _, _ => none := by
  unfold aslice skOf
  cases P.underlying t with
  | none => cases mx <;> rfl
  | some d => cases d <;> cases mx <;> first | rfl | (dsimp only; split <;> simp_all [asliceR] <;> cases x <;> simp_all)

def offOf (P : Program) (s : TypeId) (f : Nat) : Option Nat :=
  match P.underlying s with
  | some (.struct fields) =>
    match fields[f]? with
    | some fd =>
      match szOf P fd.type with
      | some n => if n = 0 then none else some fd.offset
      | none => none
    | none => none
  | _ => none

def afieldAddrR (o : Option Nat) (x : AV) : Option AV :=
  match o with
  | some o =>
    match x with
    | .ptr b sz i j => some (.ptr b sz i (j + o))
    | .rptr sz rows i j => some (.rptr sz rows i (j + o))
    | _ => none
  | none => none

def afieldAddr (P : Program) (s : TypeId) (x : AV) (f : Nat) : Option AV := afieldAddrR (offOf P s f) x

def fieldK (P : Program) (s : TypeId) (f : Nat) : Option (Nat × Option (Option Nat)) :=
  match P.underlying s with
  | some (.struct fields) =>
    match fields[f]? with
    | some fd => some (fd.offset, rdOf P fd.type)
    | none => none
  | _ => none

def afieldR (k : Option (Nat × Option (Option Nat))) (x : AV) : Option AV :=
  match k with
  | some (o, r) => match x with
    | .agg cs => apartR r cs o
    | _ => none
  | none => none

def afield (P : Program) (s : TypeId) (x : AV) (f : Nat) : Option AV := afieldR (fieldK P s f) x

/-- What is indexed: a slice of elements of so many cells; an array behind a pointer. -/
inductive IK where
  | no | sl (n : Nat) | arr (len n : Nat)

def ikOf (P : Program) (t : TypeId) : IK :=
  match P.underlying t with
  | some (.slice e) => match szOf P e with
    | some n => .sl n
    | none => .no
  | some (.array len e) => match szOf P e with
    | some n => .arr len n
    | none => .no
  | _ => .no

def aindexAddrR (k : IK) (x ix : AV) : Option AV :=
  match ix with
  | .int _ i =>
    match k with
    | .sl n =>
      match x with
      | .rsl sz rows => if n = sz then (if 0 ≤ i ∧ i < rows.length then some (.rptr sz rows i.toNat 0) else none) else none
      | .sl b sz off len => if n = sz then (if 0 ≤ i ∧ i < len then some (.ptr b sz (off + i.toNat) 0) else none) else none
      | _ => none
    | .arr len n =>
      match x with
      | .ptr b sz r j => if 0 ≤ i ∧ i < len then some (.ptr b sz r (j + i.toNat * n)) else none
      | .rptr sz rows r j => if 0 ≤ i ∧ i < len then some (.rptr sz rows r (j + i.toNat * n)) else none
      | _ => none
    | .no => none
  | _ => none

def aindexAddr (P : Program) (t : TypeId) (x ix : AV) : Option AV := aindexAddrR (ikOf P t) x ix

/-- What is indexed, by value: an array; a string. -/
inductive XK where
  | no | arr (len n : Nat) (r : Option (Option Nat)) | str

def xkOf (P : Program) (t : TypeId) : XK :=
  match P.underlying t with
  | some (.array len e) => match szOf P e with
    | some n => .arr len n (rdOf P e)
    | none => .no
  | some .string => .str
  | _ => .no

def aindexR (k : XK) (x ix : AV) : Option AV :=
  match ix with
  | .int _ i =>
    match k, x with
    | .arr len n r, .agg cs => if 0 ≤ i ∧ i < len then apartR r cs (i.toNat * n) else none
    | .str, .str s => if 0 ≤ i then (match s[i.toNat]? with | some b => some (.int .u8 b.toNat) | none => none) else none
    | _, _ => none
  | _ => none

def aindex (P : Program) (t : TypeId) (x ix : AV) : Option AV := aindexR (xkOf P t) x ix

def anil (x : AV) : Option AV :=
  match x with
  | .ptr .. | .rptr .. | .clo .. => some x
  | _ => none

def aextract (x : AV) (i : Nat) : Option AV :=
  match x with
  | .tup vs => vs[i]?
  | _ => none

inductive LK where
  | no | sl | str | arr (n : Nat)

def lkOf (P : Program) (t : TypeId) : LK :=
  match P.underlying t with
  | some (.slice _) => .sl
  | some .string => .str
  | some (.array n _) => .arr n
  | _ => .no

def alenR (k : LK) (x : AV) : Option AV :=
  match k, x with
  | .sl, .rsl _ rows => some (.int .i64 rows.length)
  | .sl, .sl _ _ _ len => some (.int .i64 len)
  | .sl, .nils => some (.int .i64 0)
  | .sl, .esl _ => some (.int .i64 0)
  | .str, .str s => some (.int .i64 s.size)
  | .arr n, _ => some (.int .i64 n)
  | _, _ => none

def alen (P : Program) (t : TypeId) (x : AV) : Option AV := alenR (lkOf P t) x

theorem alen_old (P : Program) (t : TypeId) (x : AV) : alen P t x =
    match P.underlying t, x with
    | some (.slice _), .rsl _ rows => some (.int .i64 rows.length)
    | some (.slice _), .sl _ _ _ len => some (.int .i64 len)
    | some (.slice _), .nils => some (.int .i64 0)
    | some (.slice _), .esl _ => some (.int .i64 0)
    | some .string, .str s => some (.int .i64 s.size)
    | some (.array n _), _ => some (.int .i64 n)
    | _, _ => none := by
  unfold alen lkOf
  cases P.underlying t with
  | none => rfl
  | some d => cases d <;> cases x <;> rfl

def amin (x y : AV) : Option AV :=
  match x, y with
  | .int k a, .int _ b => some (.int k (if b < a then b else a))
  | _, _ => none

def amax (x y : AV) : Option AV :=
  match x, y with
  | .int k a, .int _ b => some (.int k (if b > a then b else a))
  | _, _ => none

/-- A value's cells. -/
def AV.cells? : AV → Option (List AV)
  | .agg cs => some cs
  | .undef => none
  | .tup _ => none
  | v => some [v]

def afill (place : Nat → Option (Nat × Nat)) (cells : List AV) : List (Nat × AV) → Option (List AV)
  | [] => some cells
  | (i, v) :: rest =>
    match place i, v.cells? with
    | some (off, size), some cs =>
      if cs.length ≠ size ∨ off + cs.length > cells.length then none
      else afill place (cs.zipIdx.foldl (fun (l : List AV) (p : AV × Nat) => l.set (off + p.2) p.1) cells) rest
    | _, _ => none

def fieldPlaces (P : Program) : List Field → Option (List (Nat × Nat))
  | [] => some []
  | f :: fs =>
    match szOf P f.type, fieldPlaces P fs with
    | some n, some l => some ((f.offset, n) :: l)
    | _, _ => none

/-- How a value is built: its zero's cells; where the parts lie. -/
inductive BK where
  | no | str (zero : List AV) (places : List (Nat × Nat)) | arr (zero : List AV) (n : Nat)

def bkOf (P : Program) (t : TypeId) : BK :=
  match P.info? t with
  | some i =>
    match i.zero with
    | some z =>
      match P.underlying t with
      | some (.struct fields) =>
        match fieldPlaces P fields.toList with
        | some places => .str (z.cells.toList.map ofCell) places
        | none => .no
      | some (.array _ e) =>
        match szOf P e with
        | some n => .arr (z.cells.toList.map ofCell) n
        | none => .no
      | _ => .no
    | none => .no
  | none => .no

def abuildR (k : BK) (parts : List (Nat × AV)) : Option AV :=
  match k with
  | .str zero places => (afill (places[·]?) zero parts).map .agg
  | .arr zero n => (afill (fun i => some (i * n, n)) zero parts).map .agg
  | .no => none

def abuild (P : Program) (t : TypeId) (parts : List (Nat × AV)) : Option AV := abuildR (bkOf P t) parts

theorem abuild_old (P : Program) (t : TypeId) (parts : List (Nat × AV)) : abuild P t parts =
    match P.info? t with
    | some i =>
      match i.zero with
      | some z =>
        match P.underlying t with
        | some (.struct fields) =>
          match fieldPlaces P fields.toList with
          | some places => (afill (places[·]?) (z.cells.toList.map ofCell) parts).map .agg
          | none => none
        | some (.array _ e) =>
          match szOf P e with
          | some n => (afill (fun i => some (i * n, n)) (z.cells.toList.map ofCell) parts).map .agg
          | none => none
        | _ => none
      | none => none
    | none => none := by
  unfold abuild bkOf
  repeat' split
  all_goals simp_all [abuildR]

def apick (c a b : AV) : Option AV := match c with | .bool t => some (if t then a else b) | _ => none

/-- The operations that touch no memory. -/
def aval (P : Program) (ρ : Operand → AV) : Op → Option AV
  | .move x | .assign x => some (ρ x)
  | .pick c a b => apick (ρ c) (ρ a) (ρ b)
  | .build t parts => abuild P t (parts.toList.map fun p => (p.1, ρ p.2))
  | .nilCheck x => anil (ρ x)
  | .binOp op t x y _ => abin P op t (ρ x) (ρ y)
  | .unOp op _ x => aun op (ρ x)
  | .convert s d x => aconv P s d (ρ x)
  | .makeFunc (.func f) first caps => some (.clo f (first.toList.map ρ) (caps.toList.map ρ))
  | .slice t x lo hi mx => aslice P t (ρ x) (lo.map ρ) (hi.map ρ) (mx.map ρ)
  | .fieldAddr s x f => afieldAddr P s (ρ x) f
  | .field s x f => afield P s (ρ x) f
  | .indexAddr t x i => aindexAddr P t (ρ x) (ρ i)
  | .index t x i => aindex P t (ρ x) (ρ i)
  | .extract x i => aextract (ρ x) i
  | .call { callee := .builtin .len, args, argTypes } => match args.toList, argTypes.toList with | [x], [t] => alen P t (ρ x) | _, _ => none
  | .call { callee := .builtin .min, args, .. } => match args.toList with | [x, y] => amin (ρ x) (ρ y) | _ => none
  | .call { callee := .builtin .max, args, .. } => match args.toList with | [x, y] => amax (ρ x) (ρ y) | _ => none
  | _ => none

section
variable {P : Program} {w : World} {F A : Nat → Prop} {m : Nat → Nat}

theorem rv_ofCell (v : Value) : RV w F A m (ofCell v) v := by
  unfold ofCell
  split <;> constructor

theorem rv_list_ofCell (cs : Array Value) (i : Nat) (a : AV) (v : Value) (ha : (cs.toList.map ofCell)[i]? = some a) (hv : cs[i]? = some v) : RV w F A m a v := by
  simp only [List.getElem?_map, Array.getElem?_toList, hv, Option.map_some, Option.some.injEq] at ha
  exact ha ▸ rv_ofCell v

theorem rv_ofConst (v : Value) : RV w F A m (ofConst v) v := by
  unfold ofConst
  split
  · exact .agg _ _ (by simp) (rv_list_ofCell _)
  · exact rv_ofCell v

/-- A frame. -/
def RF (w : World) (F A : Nat → Prop) (m : Nat → Nat) (fr : AFr) (tmps : Array Value) : Prop := ∀ t, RV w F A m (fr t) (tmps.getD t undef)

theorem RF.eval {fr : AFr} {a : Act} (h : RF w F A m fr a.tmps) (x : Operand) : RV w F A m (fr.eval x) (a.eval x) := by
  cases x with
  | tmp t => exact h t
  | const v => exact rv_ofConst v
  | global g => exact .undef _
  | func f => exact .clo f [] [] #[] #[] rfl rfl (by simp) (by simp)

theorem RF.put {fr : AFr} {a : Act} (h : RF w F A m fr a.tmps) {dst : Option Nat} {x : AV} {v : Value} (hd : ∀ d, dst = some d → d < a.tmps.size) (hv : RV w F A m x v) :
    RF w F A m (fr.put dst x) (a.put dst v).tmps := by
  cases dst with
  | none => exact h
  | some d =>
    intro t
    have hd := hd d rfl
    simp only [AFr.put, AFr.upd, Act.put]
    by_cases ht : t = d
    · subst ht
      simp [hd, hv]
    · have := h t
      have hne : ¬ d = t := fun e => ht e.symm
      simpa [ht, Array.getElem?_setIfInBounds, hne] using this

/-- The step of an operation that only reckons. -/
def Yld (P : Program) (w : World) (F A : Nat → Prop) (m : Nat → Nat) (s : Sem Value) (x : AV) : Prop := ∃ v, s.run P w = .ok v w ∧ RV w F A m x v

theorem yld_pure {s : Sem Value} {v : Value} {x : AV} (h : s = pure v) (hx : RV w F A m x v) : Yld P w F A m s x := ⟨v, by rw [h]; rfl, hx⟩

theorem aarith_sound {op : BinOp} {k : IntKind} {a b : Int} {x : AV} {t : TypeId} (h : aarith op k a b = some x) :
    ∃ v, (binOp op t (.int k a) (.int k b)).run P w = .ok v w ∧ RV w F A m x v := by
  cases op <;> simp only [aarith, Option.some.injEq] at h <;>
    first
    | (subst h; exact ⟨_, rfl, .int _ _⟩)
    | (subst h; exact ⟨_, rfl, .bool _⟩)
    | (subst h; refine ⟨_, ?_, .int _ _⟩; simp [binOp, Op.intArith]; done)
    | (subst h; refine ⟨_, ?_, .int _ _⟩; simp only [binOp, ne_eq, not_true_eq_false, if_false]; rfl)
    | (subst h; refine ⟨_, ?_, .bool _⟩; simp [binOp, Op.intCmp]; done)
    | (split at h
       · cases h
       · rename_i hb
         simp only [Option.some.injEq] at h
         subst h; refine ⟨_, ?_, .int _ _⟩; simp [binOp, Op.intDiv, hb])
    | cases h

theorem ashift_sound {op : BinOp} {k k' : IntKind} {a b : Int} {x : AV} {t : TypeId} (h : ashift op k a b = some x) :
    ∃ v, (binOp op t (.int k a) (.int k' b)).run P w = .ok v w ∧ RV w F A m x v := by
  unfold ashift at h
  split at h
  · cases h
  · rename_i hb
    cases op <;> simp only [Option.some.injEq] at h <;>
      first
      | (subst h; refine ⟨_, ?_, .int _ _⟩; simp [binOp, Op.shift, hb]; done)
      | cases h

theorem aun_sound {op : UnOp} {x z : AV} {v : Value} (h : aun op x = some z) (hx : RV w F A m x v) : ∃ r, (Op.unary op v).run P w = .ok r w ∧ RV w F A m z r := by
  unfold aun at h
  split at h
  · cases hx
    simp only [aarith, Option.some.injEq] at h
    subst h
    exact ⟨_, rfl, .int _ _⟩
  · cases hx
    simp only [aarith, Option.some.injEq] at h
    subst h
    exact ⟨_, rfl, .int _ _⟩
  · cases hx
    simp only [Option.some.injEq] at h
    subst h
    exact ⟨_, rfl, .bool _⟩
  · cases h

theorem aconv_sound {s d : TypeId} {x z : AV} {v : Value} (h : aconv P s d x = some z) (hx : RV w F A m x v) : ∃ r, (convert s d v).run P w = .ok r w ∧ RV w F A m z r := by
  rw [aconv_old] at h
  split at h
  · rename_i hs hd
    cases hx
    simp only [Option.some.injEq] at h
    subst h
    refine ⟨_, ?_, .int _ _⟩
    simp [convert, run_underlying hs, run_underlying hd, Conv.intToInt]
  · cases h

theorem szOf_some {t : TypeId} {n : Nat} (h : szOf P t = some n) : ∃ i, P.info? t = some i ∧ i.size = n := by
  unfold szOf at h
  cases hi : P.info? t with
  | none => simp [hi] at h
  | some i => simp only [hi, Option.map_some, Option.some.injEq] at h; exact ⟨i, rfl, h⟩

theorem run_sizeOf {t : TypeId} {n : Nat} (h : szOf P t = some n) (w : World) : (sizeOf t).run P w = .ok n w := by
  obtain ⟨i, hi, rfl⟩ := szOf_some h
  simp [sizeOf, typeInfo, hi]

theorem run_isAgg {t : TypeId} {b : Bool} (h : aggT P t = some b) (w : World) : (isAgg t).run P w = .ok b w := by
  unfold aggT at h
  split at h
  · rename_i hu; simp only [Option.some.injEq] at h; subst h; simp [isAgg, run_underlying hu]
  · rename_i hu; simp only [Option.some.injEq] at h; subst h; simp [isAgg, run_underlying hu]
  · rename_i d h1 h2 hu
    simp only [Option.some.injEq] at h
    subst h
    unfold isAgg
    rw [Sem.run_bind, run_underlying hu]
    cases d <;> simp_all
  · cases h

theorem apart_sound {t : TypeId} {cs : List AV} {vs : Array Value} {off : Nat} {z : AV} (h : apart P t cs off = some z) (hl : cs.length = vs.size)
    (hc : ∀ (i : Nat) (a : AV) (v : Value), cs[i]? = some a → vs[i]? = some v → RV w F A m a v) : ∃ r, (part t vs off).run P w = .ok r w ∧ RV w F A m z r := by
  rw [apart_old] at h
  split at h
  · rename_i n ha hn
    simp only [Option.some.injEq] at h
    subst h
    refine ⟨.agg (vs.extract off (off + n)), ?_, .agg _ _ ?_ ?_⟩
    · simp [part, run_isAgg ha, run_sizeOf hn]
    · simp [hl]; omega
    · intro i a v h1 h2
      rw [List.getElem?_take] at h1
      split at h1
      · rename_i hi
        rw [List.getElem?_drop] at h1
        refine hc _ a v h1 ?_
        rw [Array.getElem?_extract] at h2
        split at h2
        · exact h2
        · cases h2
      · cases h1
  · rename_i n ha hn
    obtain ⟨v, hv, hx⟩ := RV.getElem hl hc h
    exact ⟨v, by simp [part, run_isAgg ha, hv], hx⟩
  · cases h

theorem ceqs_append : ∀ (l ls : List CK) (as bs : List AV) (r : Bool), ceqs (l ++ ls) as bs = some r →
    ∃ r1 r2, ceqs l (as.take l.length) (bs.take l.length) = some r1 ∧ ceqs ls (as.drop l.length) (bs.drop l.length) = some r2 ∧ r = (r1 && r2)
  | [], ls, as, bs, r, h => ⟨true, r, rfl, by simpa using h, by simp⟩
  | k :: l, ls, [], bs, r, h => by simp [ceqs] at h
  | k :: l, ls, a :: as, [], r, h => by simp [ceqs] at h
  | k :: l, ls, a :: as, b :: bs, r, h => by
    simp only [List.cons_append, ceqs] at h
    split at h <;> try (cases h; done)
    rename_i x y hx hy
    simp only [Option.some.injEq] at h
    obtain ⟨r1, r2, q1, q2, q3⟩ := ceqs_append l ls as bs y hy
    refine ⟨x && r1, r2, ?_, q2, ?_⟩
    · simp only [List.length_cons, List.take_succ_cons, ceqs, hx, q1]
    · rw [← h, q3, Bool.and_assoc]

theorem ceqs_len : ∀ {l : List CK} {as bs : List AV} {r : Bool}, ceqs l as bs = some r → as.length = l.length ∧ bs.length = l.length
  | [], [], [], _, _ => ⟨rfl, rfl⟩
  | [], _ :: _, _, _, h => by simp [ceqs] at h
  | [], [], _ :: _, _, h => by simp [ceqs] at h
  | _ :: _, [], _, _, h => by simp [ceqs] at h
  | _ :: _, _ :: _, [], _, h => by simp [ceqs] at h
  | k :: l, a :: as, b :: bs, r, h => by
    simp only [ceqs] at h
    split at h <;> try (cases h; done)
    rename_i x y hx hy
    have := ceqs_len hy
    simp [this.1, this.2]

theorem ceqs_one {k : CK} {as bs : List AV} {r : Bool} (h : ceqs [k] as bs = some r) : ∃ a b, as = [a] ∧ bs = [b] ∧ ceq k a b = some r := by
  obtain ⟨h1, h2⟩ := ceqs_len h
  match as, bs, h1, h2 with
  | [a], [b], _, _ =>
    refine ⟨a, b, rfl, rfl, ?_⟩
    simp only [ceqs] at h
    split at h <;> try (cases h; done)
    rename_i x y hx hy
    simp only [Option.some.injEq] at h hy
    rw [hx, ← h, ← hy, Bool.and_true]

/-- The cells of a value that is compared. -/
def eqCells (P : Program) (t : TypeId) (z : AV) (cs : List AV) : Prop := if aggT P t = some true then z = .agg cs else cs = [z]

/-- What a part's cells are. -/
theorem apart_cells {t : TypeId} {cs : List AV} {off n : Nat} {z : AV} (h : apart P t cs off = some z) (hs : szOf P t = some n) (hn : aggT P t = some false → n = 1) : eqCells P t z ((cs.drop off).take n) := by
  rw [apart_old] at h
  unfold eqCells
  split at h
  · rename_i m ha hm
    rw [hs] at hm
    simp only [Option.some.injEq] at h hm
    subst hm
    rw [if_pos ha, h]
  · rename_i m ha hm
    rw [hs] at hm
    simp only [Option.some.injEq] at hm
    subst hm
    rw [if_neg (by rw [ha]; simp), hn ha]
    rw [List.take_one, List.head?_drop, h]
    rfl
  · cases h

theorem eqK_len {d : Nat} {t : TypeId} {l : List CK} (h : eqK P d t = some l) : (aggT P t = some true) ∨ (aggT P t = some false ∧ ∃ k, l = [k]) := by
  cases d with
  | zero => simp [eqK] at h
  | succ d =>
    unfold eqK at h
    unfold aggT
    split at h <;> first | (cases h; done) | skip
    all_goals rename_i hu
    all_goals rw [hu]
    all_goals first | (left; rfl) | skip
    all_goals
      simp only [Option.some.injEq] at h
      exact .inr ⟨rfl, _, h.symm⟩

theorem eqIn_sound : ∀ (d : Nat),
    (∀ (t : TypeId) (l : List CK) (D : Nat) (z1 z2 : AV) (c1 c2 : List AV) (v1 v2 : Value) (r : Bool), eqK P d t = some l → d ≤ D → RV w F A m z1 v1 → RV w F A m z2 v2 → eqCells P t z1 c1 → eqCells P t z2 c2 → ceqs l c1 c2 = some r →
      (Op.equalIn D t v1 v2).run P w = .ok r w) ∧
    (∀ (fs : List Field) (off : Nat) (l : List CK) (D : Nat) (xs ys : Array Value) (cs ds : List AV) (r : Bool), eqKs P d off fs = some l → d ≤ D → cs.length = xs.size → ds.length = ys.size →
      (∀ (i : Nat) (a : AV) (v : Value), cs[i]? = some a → xs[i]? = some v → RV w F A m a v) → (∀ (i : Nat) (a : AV) (v : Value), ds[i]? = some a → ys[i]? = some v → RV w F A m a v) →
      ceqs l (cs.drop off) (ds.drop off) = some r → (Op.eqFields D xs ys fs).run P w = .ok r w) := by
  intro d
  induction d with
  | zero =>
    refine ⟨fun t l D z1 z2 c1 c2 v1 v2 r h => by simp [eqK] at h, fun fs off l D xs ys cs ds r h _ _ _ _ _ hr => ?_⟩
    cases fs with
    | cons f fs => simp [eqKs] at h
    | nil =>
      simp only [eqKs, Option.some.injEq] at h
      subst h
      have := ceqs_len hr
      have e1 : cs.drop off = [] := List.length_eq_zero_iff.1 this.1
      have e2 : ds.drop off = [] := List.length_eq_zero_iff.1 this.2
      rw [e1, e2] at hr
      simp only [ceqs, Option.some.injEq] at hr
      subst hr
      simp [Op.eqFields]
  | succ d ih =>
    obtain ⟨ihK, ihF⟩ := ih
    have part1 : ∀ (t : TypeId) (l : List CK) (i : TypeInfo) (D : Nat) (xs ys : Array Value) (cs ds : List AV) (off : Nat) (r : Bool), eqK P d t = some l → P.info? t = some i → l.length = i.size → d ≤ D → cs.length = xs.size → ds.length = ys.size →
        (∀ (i : Nat) (a : AV) (v : Value), cs[i]? = some a → xs[i]? = some v → RV w F A m a v) → (∀ (i : Nat) (a : AV) (v : Value), ds[i]? = some a → ys[i]? = some v → RV w F A m a v) →
        ceqs l ((cs.drop off).take l.length) ((ds.drop off).take l.length) = some r →
        ∃ a b, (part t xs off).run P w = .ok a w ∧ (part t ys off).run P w = .ok b w ∧ (Op.equalIn D t a b).run P w = .ok r w := by
      intro t l i D xs ys cs ds off r hl hi hsz hD e1 e2 hc1 hc2 hr
      have hs : szOf P t = some l.length := by simp [szOf, hi, hsz]
      obtain ⟨q1, q2⟩ := ceqs_len hr
      have hn : aggT P t = some false → l.length = 1 := fun ha => by
        rcases eqK_len hl with h | ⟨_, k, rfl⟩
        · rw [h] at ha; cases ha
        · rfl
      have hap : ∀ (cs : List AV), ((cs.drop off).take l.length).length = l.length → ∃ z, apart P t cs off = some z := fun cs hq => by
        rw [apart_old, hs]
        rcases eqK_len hl with h | ⟨h, k, rfl⟩
        · rw [h]; exact ⟨_, rfl⟩
        · rw [h]
          dsimp only
          have : off < cs.length := by simp at hq; omega
          exact ⟨cs[off], by simp [this]⟩
      obtain ⟨z1, hz1⟩ := hap cs q1
      obtain ⟨z2, hz2⟩ := hap ds q2
      obtain ⟨a, p1, p2⟩ := apart_sound hz1 e1 hc1
      obtain ⟨b, p3, p4⟩ := apart_sound hz2 e2 hc2
      exact ⟨a, b, p1, p3, ihK t l D z1 z2 _ _ a b r hl hD p2 p4 (apart_cells hz1 hs hn) (apart_cells hz2 hs hn) hr⟩
    constructor
    · intro t l D z1 z2 c1 c2 v1 v2 r h hD h1 h2 hc1 hc2 hr
      obtain ⟨D, rfl⟩ : ∃ D', D = D' + 1 := ⟨D - 1, by omega⟩
      unfold eqK at h
      unfold eqCells aggT at hc1 hc2
      split at h <;> first | (cases h; done) | skip
      all_goals rename_i hu
      all_goals rw [hu] at hc1 hc2
      all_goals dsimp only at hc1 hc2
      · simp only [Option.some.injEq] at h
        subst h
        rw [if_neg (by simp)] at hc1 hc2
        subst hc1 hc2
        obtain ⟨a, b, q1, q2, q3⟩ := ceqs_one hr
        simp only [List.cons.injEq, and_true] at q1 q2
        subst q1 q2
        unfold ceq at q3
        split at q3 <;> try (cases q3; done)
        all_goals rename_i hkk
        all_goals first | (cases hkk; done) | skip
        cases h1; cases h2
        split at q3 <;> try (cases q3; done)
        rename_i hk
        simp only [Option.some.injEq] at q3
        subst hk q3
        simp [Op.equalIn, run_underlying hu]
      · simp only [Option.some.injEq] at h
        subst h
        rw [if_neg (by simp)] at hc1 hc2
        subst hc1 hc2
        obtain ⟨a, b, q1, q2, q3⟩ := ceqs_one hr
        simp only [List.cons.injEq, and_true] at q1 q2
        subst q1 q2
        unfold ceq at q3
        split at q3 <;> try (cases q3; done)
        all_goals rename_i hkk
        all_goals first | (cases hkk; done) | skip
        cases h1; cases h2
        simp only [Option.some.injEq] at q3
        subst q3
        simp [Op.equalIn, run_underlying hu]
      · simp only [Option.some.injEq] at h
        subst h
        rw [if_neg (by simp)] at hc1 hc2
        subst hc1 hc2
        obtain ⟨a, b, q1, q2, q3⟩ := ceqs_one hr
        simp only [List.cons.injEq, and_true] at q1 q2
        subst q1 q2
        unfold ceq at q3
        split at q3 <;> try (cases q3; done)
        all_goals rename_i hkk
        all_goals first | (cases hkk; done) | skip
        cases h1; cases h2
        simp only [Option.some.injEq] at q3
        subst q3
        simp [Op.equalIn, run_underlying hu]
      · rename_i fs
        split at h <;> try (cases h; done)
        rename_i hst
        simp only [if_true] at hc1 hc2
        subst hc1 hc2
        cases h1 with
        | agg _ xs e1 hx =>
          cases h2 with
          | agg _ ys e2 hy =>
            have hfo : P.fieldsOf t = fs := by simp [Program.fieldsOf, hu]
            rw [run_equalIn_struct w D t xs ys (by rw [hfo]; exact hu) hst, hfo]
            exact ihF fs.toList 0 l D xs ys c1 c2 r h (by omega) e1 e2 hx hy (by simpa using hr)
      · rename_i n e
        split at h <;> try (cases h; done)
        rename_i le i hle hi
        split at h <;> try (cases h; done)
        rename_i hsz
        simp only [Option.some.injEq] at h
        subst h
        simp only [if_true] at hc1 hc2
        subst hc1 hc2
        cases h1 with
        | agg _ xs e1 hx =>
          cases h2 with
          | agg _ ys e2 hy =>
            rw [run_equalIn_array w D xs ys hu hi, List.range_eq_range']
            have hcs : P.cellsOf e = i.size := by simp [Program.cellsOf, hi]
            rw [hcs]
            have go : ∀ (q k : Nat) (r : Bool), ceqs (repK le q) (c1.drop (k * i.size)) (c2.drop (k * i.size)) = some r → (Op.eqItems D e i.size xs ys (List.range' k q)).run P w = .ok r w := by
              intro q
              induction q with
              | zero =>
                intro k r hr
                have := ceqs_len hr
                have f1 : c1.drop (k * i.size) = [] := List.length_eq_zero_iff.1 this.1
                have f2 : c2.drop (k * i.size) = [] := List.length_eq_zero_iff.1 this.2
                rw [f1, f2] at hr
                simp only [repK, ceqs, Option.some.injEq] at hr
                subst hr
                simp [Op.eqItems]
              | succ q ihq =>
                intro k r hr
                obtain ⟨r1, r2, p1, p2, p3⟩ := ceqs_append le (repK le q) _ _ r hr
                obtain ⟨a, b, g1, g2, g3⟩ := part1 e le i D xs ys c1 c2 (k * i.size) r1 hle hi hsz (by omega) e1 e2 hx hy p1
                rw [List.drop_drop, List.drop_drop, hsz, ← Nat.succ_mul] at p2
                have := ihq (k + 1) r2 p2
                rw [List.range'_succ]
                simp only [Op.eqItems, Sem.run_bind, g1, g2, g3, Result.andThen_ok]
                cases r1 with
                | false => simp [p3]
                | true => simp [p3, this]
            exact go n 0 r (by simpa using hr)
    · intro fs off l D xs ys cs ds r h hD e1 e2 hc1 hc2 hr
      cases fs with
      | nil =>
        simp only [eqKs, Option.some.injEq] at h
        subst h
        have := ceqs_len hr
        have e1 : cs.drop off = [] := List.length_eq_zero_iff.1 this.1
        have e2 : ds.drop off = [] := List.length_eq_zero_iff.1 this.2
        rw [e1, e2] at hr
        simp only [ceqs, Option.some.injEq] at hr
        subst hr
        simp [Op.eqFields]
      | cons f fs =>
        unfold eqKs at h
        split at h <;> try (cases h; done)
        rename_i i l1 l2 hi hl1 hl2
        split at h <;> try (cases h; done)
        rename_i hok
        obtain ⟨k1, k2, k3⟩ := hok
        simp only [Option.some.injEq] at h
        subst h k2
        obtain ⟨r1, r2, p1, p2, p3⟩ := ceqs_append l1 l2 _ _ r hr
        obtain ⟨a, b, g1, g2, g3⟩ := part1 f.type l1 i D xs ys cs ds f.offset r1 hl1 hi k3 (by omega) e1 e2 hc1 hc2 p1
        rw [hi] at hl2
        simp only [Option.map_some, Option.getD_some] at hl2
        rw [List.drop_drop, List.drop_drop, k3] at p2
        have := ihF fs (f.offset + i.size) l2 D xs ys cs ds r2 hl2 (by omega) e1 e2 hc1 hc2 p2
        unfold Op.eqFields
        rw [if_pos k1]
        simp only [Sem.run_bind, g1, g2, g3, Result.andThen_ok]
        cases r1 with
        | false => simp [p3]
        | true => simp [p3, this]

theorem run_eql_of {op : BinOp} {t : TypeId} {v u : Value} {r : Bool} {z : AV} (h : eqRes op r = some z) (hr : (Op.equal t v u).run P w = .ok r w)
    (he : (binOp .eql t v u).run P w = ((Op.equal t v u).run P w).andThen fun b w' => .ok (.bool b) w') (hn : (binOp .neq t v u).run P w = ((Op.equal t v u).run P w).andThen fun b w' => .ok (.bool (!b)) w') :
    ∃ x, (binOp op t v u).run P w = .ok x w ∧ RV w F A m z x := by
  unfold eqRes at h
  split at h <;> first | (cases h; done) | skip
  all_goals simp only [Option.some.injEq] at h
  · subst h; exact ⟨.bool r, by rw [he, hr]; rfl, .bool _⟩
  · subst h; exact ⟨.bool (!r), by rw [hn, hr]; rfl, .bool _⟩

theorem abin_sound {op : BinOp} {t : TypeId} {x y z : AV} {x' y' : Operand} {v u : Value} (h : abin P op t x y = some z) (hx : RV w F A m x v) (hy : RV w F A m y u) :
    ∃ r, (do eqGuard op t x' y' v u; binOp op t v u : Sem Value).run P w = .ok r w ∧ RV w F A m z r := by
  have grd : (∀ vs us, v = .agg vs → u = .agg us → False) → v ≠ .nilIface → (eqGuard op t x' y' v u).run P w = .ok () w := fun h1 h2 => by
    unfold eqGuard
    cases op <;> first | rfl | skip
    all_goals
      cases v <;> first | (exact absurd rfl h2) | rfl | skip
      cases u <;> first | rfl | (exact (h1 _ _ rfl rfl).elim)
  have nilP : ∀ {q : QK} {b : Bool} {p : Option Addr}, (match q with | .p => eqRes op b | _ => none) = some z → qkOf P t = q → p.isNone = b → ∃ r, (binOp op t (.pointer p) (.pointer none)).run P w = .ok r w ∧ RV w F A m z r := by
    intro q b p h hq hb
    split at h <;> try (cases h; done)
    have hu : P.underlying t = some (.pointer (P.pointee t)) := by
      unfold qkOf at hq
      repeat' split at hq
      all_goals first | (cases hq; done) | skip
      rename_i e he; simp [Program.pointee, he]
    unfold eqRes at h
    split at h <;> first | (cases h; done) | skip
    all_goals simp only [Option.some.injEq] at h
    all_goals subst h hb
    · exact ⟨_, run_eql_pointer_nil w t _ hu, .bool _⟩
    · exact ⟨_, run_neq_pointer_nil w t _ hu, .bool _⟩
  have nilS : ∀ {q : QK} {b : Bool} {p : Option Addr} {l c : Nat}, (match q with | .s => eqRes op b | _ => none) = some z → qkOf P t = q → p.isNone = b → ∃ r, (binOp op t (.slice p l c) (.slice none 0 0)).run P w = .ok r w ∧ RV w F A m z r := by
    intro q b p l c h hq hb
    split at h <;> try (cases h; done)
    have hu : ∃ e, P.underlying t = some (.slice e) := by
      unfold qkOf at hq
      repeat' split at hq
      all_goals first | (cases hq; done) | skip
      rename_i e he; exact ⟨e, he⟩
    obtain ⟨e, hu⟩ := hu
    have he := run_equal_slice_nil (P := P) w t e p l c hu
    rw [hb] at he
    exact run_eql_of h he (by simp only [binOp]; simp) (by simp only [binOp]; simp)
  unfold abin abinR at h
  split at h
  · cases hx; cases hy
    rename_i k a k' b
    simp only [Sem.run_bind, grd (by simp) (by simp), Result.andThen_ok]
    split at h
    · exact ashift_sound h
    · split at h
      · rename_i hk; subst hk; exact aarith_sound h
      · cases h
  · cases hx; cases hy
    rename_i a b
    simp only [Sem.run_bind, grd (by simp) (by simp), Result.andThen_ok]
    split at h <;> try (cases h; done)
    rename_i hq
    have hu : P.underlying t = some .bool := by
      unfold qkOf at hq; repeat' split at hq
      all_goals first | (cases hq; done) | assumption
    exact run_eql_of h (run_equal_bool w t a b hu) (by simp only [binOp]; simp [Op.equal, Op.maxDepth]) (by simp only [binOp]; simp [Op.equal, Op.maxDepth])
  · cases hx; cases hy
    rename_i a b
    simp only [Sem.run_bind, grd (by simp) (by simp), Result.andThen_ok]
    split at h <;> try (cases h; done)
    rename_i hq
    have hu : P.underlying t = some .string := by
      unfold qkOf at hq; repeat' split at hq
      all_goals first | (cases hq; done) | assumption
    unfold eqRes at h
    split at h <;> first | (cases h; done) | skip
    all_goals simp only [Option.some.injEq] at h
    · subst h; exact ⟨.bool (a == b), by simp only [binOp]; simp [Op.stringOp, beq_toListBytes], .bool _⟩
    · subst h; exact ⟨.bool (!(a == b)), by simp only [binOp]; simp [Op.stringOp, beq_toListBytes], .bool _⟩
  · cases hx; cases hy
    simp only [Sem.run_bind, grd (by simp) (by simp), Result.andThen_ok]
    exact nilP h rfl rfl
  · cases hx; cases hy
    simp only [Sem.run_bind, grd (by simp) (by simp), Result.andThen_ok]
    exact nilP h rfl rfl
  · cases hx; cases hy
    simp only [Sem.run_bind, grd (by simp) (by simp), Result.andThen_ok]
    exact nilP h rfl rfl
  · cases hx; cases hy
    simp only [Sem.run_bind, grd (by simp) (by simp), Result.andThen_ok]
    exact nilS h rfl rfl
  · cases hx; cases hy
    simp only [Sem.run_bind, grd (by simp) (by simp), Result.andThen_ok]
    exact nilS h rfl rfl
  · cases hx; cases hy
    simp only [Sem.run_bind, grd (by simp) (by simp), Result.andThen_ok]
    exact nilS h rfl rfl
  · cases hx; cases hy
    simp only [Sem.run_bind, grd (by simp) (by simp), Result.andThen_ok]
    exact nilS h rfl rfl
  · rename_i cs ds
    cases hx with
    | agg _ xs e1 hc1 =>
      cases hy with
      | agg _ ys e2 hc2 =>
        split at h <;> try (cases h; done)
        rename_i l hq
        split at h <;> try (cases h; done)
        rename_i r hr
        have hq : P.eqGuardType P.depth t = false ∧ eqK P 64 t = some l ∧ aggT P t = some true := by
          unfold qkOf at hq
          unfold aggT
          repeat' split at hq
          all_goals first | (cases hq; done) | skip
          all_goals
            rename_i hu hg _ l' hl
            simp only [QK.c.injEq] at hq
            subst hq
            rw [hu]
            exact ⟨hg, hl, rfl⟩
        obtain ⟨hg, hl, ha⟩ := hq
        have hcell : ∀ cs, eqCells P t (.agg cs) cs := fun cs => by unfold eqCells; rw [if_pos ha]
        have he := (eqIn_sound (P := P) (w := w) (F := F) (A := A) (m := m) 64).1 t l 10000 (.agg cs) (.agg ds) cs ds (.agg xs) (.agg ys) r hl (by omega) (.agg cs xs e1 hc1) (.agg ds ys e2 hc2) (hcell cs) (hcell ds) hr
        simp only [Sem.run_bind, run_eqGuard_agg w op t x' y' xs ys hg, Result.andThen_ok]
        exact run_eql_of h (by simpa [Op.equal, Op.maxDepth] using he) (by rw [run_eql_struct]; rfl) (by rw [run_neq_struct]; rfl)
  · cases h

theorem abound_sound {x : Option AV} {v : Option Value} {d y k : Nat} {cap : Nat} {code : BoundsCode} (h : abound x d y = some k) (hx : ∀ a, x = some a → ∃ u, v = some u ∧ RV w F A m a u)
    (hn : x = none → v = none) (hy : y ≤ cap) :
    (match (generalizing := false) v with | some u => Instr.sliceBound u cap code | none => pure d : Sem Nat).run P w = .ok k w := by
  unfold abound at h
  split at h
  · rw [hn rfl]; simp only [Option.some.injEq] at h; subst h; rfl
  · rename_i k' i
    split at h
    · rename_i hi
      obtain ⟨u, rfl, hu⟩ := hx _ rfl
      cases hu
      simp only [Option.some.injEq] at h
      subst h
      simp [Instr.sliceBound, asIntOf, hi.1, show i ≤ (cap : Int) from by omega]
    · cases h
  · cases h

theorem run_sliceBounds {len cap l h : Nat} {isSlice : Bool} {lo hi : Option AV} {lo' hi' : Option Value} {most : Nat} (hm : most ≤ cap)
    (h1 : abound hi len most = some h) (h2 : abound lo 0 h = some l)
    (hhi : ∀ a, hi = some a → ∃ u, hi' = some u ∧ RV w F A m a u) (nhi : hi = none → hi' = none)
    (hlo : ∀ a, lo = some a → ∃ u, lo' = some u ∧ RV w F A m a u) (nlo : lo = none → lo' = none) :
    (Instr.sliceBounds isSlice len cap lo' hi' none).run P w = .ok (l, h, cap) w := by
  have e1 := abound_sound (P := P) (code := if isSlice then .sliceAcap else .sliceAlen) h1 hhi nhi hm
  have e2 := abound_sound (P := P) (code := .sliceB) h2 hlo nlo (Nat.le_refl _)
  cases hi' <;> cases lo' <;> simp_all [Instr.sliceBounds]

theorem abound_le {x : Option AV} {d y k : Nat} (h : abound x d y = some k) (hd : d ≤ y) : k ≤ y := by
  unfold abound at h
  split at h
  · simp only [Option.some.injEq] at h; omega
  · split at h
    · simp only [Option.some.injEq] at h; omega
    · cases h
  · cases h

/-- How operands that may be missing are borne. -/
def ROpt (w : World) (F A : Nat → Prop) (m : Nat → Nat) (x : Option AV) (v : Option Value) : Prop :=
  (∀ a, x = some a → ∃ u, v = some u ∧ RV w F A m a u) ∧ (x = none → v = none)

theorem rv_rsl_part {sz : Nat} {rows : List (List AV)} {a : Option Addr} {len cap l h : Nat} {n : Nat} (hx : RV w F A m (.rsl sz rows) (.slice a len cap)) (hl : l ≤ h) (hh : h ≤ rows.length) (hn : n = sz) :
    RV w F A m (.rsl sz ((rows.take h).drop l)) (.slice (if cap = l then a else a.map (·.add (l * n))) (h - l) (cap - l)) := by
  subst hn
  cases hx with
  | rsl0 s a' cap' h0 =>
    simp at hh
    subst hh
    have : l = 0 := by omega
    subst this
    refine .rsl0 _ _ _ fun h => ?_
    split at h
    · exact h0 h
    · cases a with
      | none => exact h0 rfl
      | some a => cases h
  | rsl s rws cb co cap' val hF hb hc hr hfl hvv hrv =>
    by_cases hle : l = h
    · subst hle
      have : (rows.take l).drop l = [] := by simp
      rw [this, Nat.sub_self]
      exact .rsl0 _ _ _ fun h => by split at h <;> cases h
    · have hlen : ((rows.take h).drop l).length = h - l := by simp; omega
      have hcl : ¬ cap = l := by omega
      rw [if_neg hcl, ← hlen]
      have hadd : (⟨cb, co, none⟩ : Addr).add (l * n) = ⟨cb, co + l * n, none⟩ := by unfold Addr.add; split <;> simp_all
      simp only [Option.map_some, hadd]
      have hget : ∀ i, ((rows.take h).drop l)[i]? = if l + i < h then rows[l + i]? else none := by
        intro i; rw [List.getElem?_drop, List.getElem?_take]
      refine .rsl n _ cb (co + l * n) (cap - l) (fun i j => val (l + i) j) hF hb (by omega) ?_ ?_ ?_ ?_
      · intro row hrow
        exact hr row (List.mem_of_mem_take (List.mem_of_mem_drop hrow))
      · intro row hrow
        exact hfl row (List.mem_of_mem_take (List.mem_of_mem_drop hrow))
      · intro i row j a h1 h2
        rw [hget] at h1
        split at h1
        · obtain ⟨q1, q2⟩ := hvv (l + i) row j a h1 h2
          refine ⟨?_, q2⟩
          rw [← q1]
          congr 2
          rw [Nat.add_mul]; omega
        · cases h1
      · intro i row j a h1 h2
        rw [hget] at h1
        split at h1
        · exact hrv (l + i) row j a h1 h2
        · cases h1

theorem aslice_sound {t : TypeId} {x z : AV} {v : Value} {lo hi mx : Option AV} {lo' hi' mx' : Option Value} (h : aslice P t x lo hi mx = some z) (hx : RV w F A m x v)
    (hlo : ROpt w F A m lo lo') (hhi : ROpt w F A m hi hi') (hmx : ROpt w F A m mx mx') :
    ∃ r, (Instr.sliceAt t v lo' hi' mx').run P w = .ok r w ∧ RV w F A m z r := by
  rw [aslice_old] at h
  split at h
  · rename_i e hu
    have := hmx.2 rfl
    subst this
    split at h
    · rename_i n sz rows hn
      split at h <;> try (cases h; done)
      rename_i hh h1
      split at h <;> try (cases h; done)
      rename_i l h2
      split at h <;> try (cases h; done)
      rename_i hsz
      simp only [Option.some.injEq] at h
      subst h
      have hle := abound_le h2 (Nat.zero_le _)
      have hlh := abound_le h1 (Nat.le_refl _)
      have hv : ∃ a cap, v = .slice a rows.length cap ∧ rows.length ≤ cap := by
        cases hx with
        | rsl0 s a cap => exact ⟨_, _, rfl, Nat.zero_le _⟩
        | rsl s rws cb co cap val hF hb hc hr hfl hvv hrv => exact ⟨_, _, rfl, hc⟩
      obtain ⟨a, cap, rfl, hcap⟩ := hv
      refine ⟨_, ?_, rv_rsl_part hx hle hlh hsz⟩
      simp [Instr.sliceAt, Instr.slice, run_underlying hu, run_sliceBounds (P := P) hcap h1 h2 hhi.1 hhi.2 hlo.1 hlo.2, run_sizeOf hn]
    · rename_i n b sz off len hn
      split at h <;> try (cases h; done)
      rename_i hh h1
      split at h <;> try (cases h; done)
      rename_i l h2
      split at h <;> try (cases h; done)
      rename_i hsz
      have hle := abound_le h2 (Nat.zero_le _)
      have hlh := abound_le h1 (Nat.le_refl _)
      cases hx with
      | sl b sz off len cap e' hA hc hm hs =>
        refine ⟨_, by simp [Instr.sliceAt, Instr.slice, run_underlying hu, run_sliceBounds (P := P) hc h1 h2 hhi.1 hhi.2 hlo.1 hlo.2, run_sizeOf hn]; rfl, ?_⟩
        split at h
        · rename_i hl0
          subst hl0
          simp only [Option.some.injEq] at h
          subst h
          have hadd : (⟨m b, off * sz, none⟩ : Addr).add (0 * n) = ⟨m b, off * sz, none⟩ := by simp [Addr.add]
          simp only [Option.map_some, hadd, ite_self, Nat.sub_zero]
          exact .sl b sz off hh cap e' hA (by omega) hm hs
        · split at h
          · rename_i hl0 hlt
            simp only [Option.some.injEq] at h
            subst h
            have hne : ¬ cap = l := by omega
            have hadd : (⟨m b, off * sz, none⟩ : Addr).add (l * n) = ⟨m b, (off + l) * sz, none⟩ := by
              unfold Addr.add
              split
              · rename_i h0
                have : l * sz = 0 := by rw [← hsz]; exact h0
                simp [Nat.add_mul, this]
              · simp [Nat.add_mul, hsz]
            simp only [if_neg hne, Option.map_some, hadd]
            refine .sl b sz (off + l) (hh - l) (cap - l) e' hA (by omega) (by omega) ?_
            rw [hs]
            congr 3
            omega
          · rename_i hl0 hlt
            simp only [Option.some.injEq] at h
            subst h
            have : hh - l = 0 := by omega
            rw [this]
            exact .rsl0 _ _ _ fun h => by split at h <;> cases h
    · rename_i n hn
      split at h <;> try (cases h; done)
      rename_i hh h1
      split at h <;> try (cases h; done)
      rename_i l h2
      simp only [Option.some.injEq] at h
      subst h
      have hlh := abound_le h1 (Nat.le_refl _)
      have hle := abound_le h2 (Nat.zero_le _)
      cases hx
      refine ⟨_, by simp [Instr.sliceAt, Instr.slice, run_underlying hu, run_sliceBounds (P := P) (Nat.zero_le _) h1 h2 hhi.1 hhi.2 hlo.1 hlo.2, run_sizeOf hn]; rfl, ?_⟩
      have e1 : hh = 0 := by omega
      have e2 : l = 0 := by omega
      subst e1 e2
      exact .nils
    · cases h
  · rename_i hu
    have := hmx.2 rfl
    subst this
    split at h <;> try (cases h; done)
    rename_i s
    split at h <;> try (cases h; done)
    rename_i hh h1
    split at h <;> try (cases h; done)
    rename_i l h2
    simp only [Option.some.injEq] at h
    subst h
    cases hx
    exact ⟨_, by simp [Instr.sliceAt, Instr.slice, run_underlying hu, run_sliceBounds (P := P) (Nat.le_refl _) h1 h2 hhi.1 hhi.2 hlo.1 hlo.2], .str _⟩
  · cases h

theorem run_fieldPlace {f : Field} {n : Nat} (h : szOf P f.type = some n) (hn : n ≠ 0) (a : Addr) : (fieldPlace a f).run P w = .ok (a.add f.offset) w := by
  simp [fieldPlace, run_sizeOf h, hn]

theorem afieldAddr_sound {s : TypeId} {x z : AV} {v : Value} {f : Nat} (h : afieldAddr P s x f = some z) (hx : RV w F A m x v) :
    ∃ r, (Instr.fieldAt s v f).run P w = .ok r w ∧ RV w F A m z r := by
  unfold afieldAddr afieldAddrR at h
  split at h <;> try (cases h; done)
  rename_i o ho
  unfold offOf at ho
  split at ho <;> try (cases ho; done)
  rename_i fields hu
  split at ho <;> try (cases ho; done)
  rename_i fd hf
  split at ho <;> try (cases ho; done)
  rename_i n hn
  split at ho <;> try (cases ho; done)
  rename_i hn0
  simp only [Option.some.injEq] at ho
  subst ho
  split at h
  · rename_i b sz i j
    cases hx with
    | ptr b sz i j hA =>
      simp only [Option.some.injEq] at h
      subst h
      have hadd : (⟨m b, i * sz + j, none⟩ : Addr).add fd.offset = ⟨m b, i * sz + (j + fd.offset), none⟩ := by unfold Addr.add; split <;> simp_all [Nat.add_assoc]
      exact ⟨_, by simp [Instr.fieldAt, run_underlying hu, hf, Instr.sureAddr, run_fieldPlace hn hn0, hadd] <;> rfl, .ptr _ _ _ _ hA⟩
  · rename_i sz rows i j
    cases hx with
    | rptr sz rows i j cb co val hF hb hr hfl hv hrv =>
      simp only [Option.some.injEq] at h
      subst h
      have hadd : (⟨cb, co + (i * sz + j), none⟩ : Addr).add fd.offset = ⟨cb, co + (i * sz + (j + fd.offset)), none⟩ := by unfold Addr.add; split <;> simp_all [Nat.add_assoc]
      exact ⟨_, by simp [Instr.fieldAt, run_underlying hu, hf, Instr.sureAddr, run_fieldPlace hn hn0, hadd] <;> rfl, .rptr sz rows i _ cb co val hF hb hr hfl hv hrv⟩
  · cases h

theorem afield_sound {s : TypeId} {x z : AV} {v : Value} {f : Nat} (h : afield P s x f = some z) (hx : RV w F A m x v) :
    ∃ r, (Instr.field s v f).run P w = .ok r w ∧ RV w F A m z r := by
  unfold afield afieldR at h
  split at h <;> try (cases h; done)
  rename_i o r ho
  unfold fieldK at ho
  split at ho <;> try (cases ho; done)
  rename_i fields hu
  split at ho <;> try (cases ho; done)
  rename_i fd hf
  simp only [Option.some.injEq, Prod.mk.injEq] at ho
  obtain ⟨rfl, rfl⟩ := ho
  split at h <;> try (cases h; done)
  cases hx with
  | agg cs vs hl hc =>
    obtain ⟨r, hr, hx⟩ := apart_sound (t := fd.type) h hl hc
    exact ⟨r, by simp [Instr.field, run_underlying hu, hf, asAgg, hr], hx⟩

theorem add_lit (b o n : Nat) : (⟨b, o, none⟩ : Addr).add n = ⟨b, o + n, none⟩ := by unfold Addr.add; split <;> simp_all

theorem aindexAddr_sound {t : TypeId} {x ix z : AV} {v u : Value} (h : aindexAddr P t x ix = some z) (hx : RV w F A m x v) (hi : RV w F A m ix u) :
    ∃ r, (Instr.indexAt t v u).run P w = .ok r w ∧ RV w F A m z r := by
  unfold aindexAddr aindexAddrR at h
  split at h <;> try (cases h; done)
  rename_i k i
  cases hi
  split at h
  · rename_i n hk
    unfold ikOf at hk
    split at hk
    · rename_i e hu
      split at hk <;> try (cases hk; done)
      rename_i n' hn
      injection hk with hk
      subst hk
      split at h
      · rename_i sz rows
        split at h <;> try (cases h; done)
        rename_i hsz
        subst hsz
        split at h <;> try (cases h; done)
        rename_i hb
        simp only [Option.some.injEq] at h
        subst h
        cases hx with
        | rsl0 s a cap => simp at hb; omega
        | rsl s rws cb co cap val hF hbb hc hr hfl hvv hrv =>
          refine ⟨.pointer (some ⟨cb, co + (i.toNat * n' + 0), none⟩), ?_, .rptr n' rows i.toNat 0 cb co val hF hbb hr hfl hvv hrv⟩
          simp [Instr.indexAt, asIntOf, run_underlying hu, hb, run_sizeOf hn, add_lit]
      · rename_i b sz off len
        split at h <;> try (cases h; done)
        rename_i hsz
        subst hsz
        split at h <;> try (cases h; done)
        rename_i hb
        simp only [Option.some.injEq] at h
        subst h
        cases hx with
        | sl b sz off len cap e' hA hc hm hs =>
          refine ⟨.pointer (some ⟨m b, (off + i.toNat) * n' + 0, none⟩), ?_, .ptr _ _ _ _ hA⟩
          simp [Instr.indexAt, asIntOf, run_underlying hu, hb, run_sizeOf hn, add_lit, Nat.add_mul]
      · cases h
    · split at hk <;> cases hk
    · cases hk
  · rename_i len n hk
    unfold ikOf at hk
    split at hk
    · split at hk <;> cases hk
    · rename_i len' e hu
      split at hk <;> try (cases hk; done)
      rename_i n' hn
      injection hk with hk1 hk2
      subst hk1 hk2
      split at h
      · rename_i b sz r j
        split at h <;> try (cases h; done)
        rename_i hb
        simp only [Option.some.injEq] at h
        subst h
        cases hx with
        | ptr b sz r j hA =>
          refine ⟨.pointer (some ⟨m b, r * sz + (j + i.toNat * n'), none⟩), ?_, .ptr _ _ _ _ hA⟩
          simp [Instr.indexAt, Instr.sureAddr, asIntOf, run_underlying hu, hb, run_sizeOf hn, add_lit, Nat.add_assoc]
      · rename_i sz rows r j
        split at h <;> try (cases h; done)
        rename_i hb
        simp only [Option.some.injEq] at h
        subst h
        cases hx with
        | rptr sz rows r j cb co val hF hbb hr hfl hvv hrv =>
          refine ⟨.pointer (some ⟨cb, co + (r * sz + (j + i.toNat * n')), none⟩), ?_, .rptr sz rows r _ cb co val hF hbb hr hfl hvv hrv⟩
          simp [Instr.indexAt, Instr.sureAddr, asIntOf, run_underlying hu, hb, run_sizeOf hn, add_lit, Nat.add_assoc]
      · cases h
    · cases hk
  · cases h

theorem aindex_sound {t : TypeId} {x ix z : AV} {v u : Value} (h : aindex P t x ix = some z) (hx : RV w F A m x v) (hi : RV w F A m ix u) :
    ∃ r, (Instr.index t v u).run P w = .ok r w ∧ RV w F A m z r := by
  unfold aindex aindexR at h
  split at h <;> try (cases h; done)
  rename_i k i
  cases hi
  split at h
  · rename_i len n r cs hk
    unfold xkOf at hk
    split at hk
    · rename_i len' e hu
      split at hk <;> try (cases hk; done)
      rename_i n' hn
      injection hk with hk1 hk2 hk3
      subst hk1 hk2 hk3
      split at h <;> try (cases h; done)
      rename_i hb
      cases hx with
      | agg cs vs hl hc =>
        obtain ⟨r, hr, hx⟩ := apart_sound (t := e) h hl hc
        exact ⟨r, by simp [Instr.index, asIntOf, run_underlying hu, hb, run_sizeOf hn, hr], hx⟩
    · cases hk
    · cases hk
  · rename_i s hk
    unfold xkOf at hk
    split at hk
    · split at hk <;> cases hk
    · rename_i hu
      split at h <;> try (cases h; done)
      rename_i hb
      split at h <;> try (cases h; done)
      rename_i b hbb
      simp only [Option.some.injEq] at h
      subst h
      cases hx
      exact ⟨_, by simp [Instr.index, asIntOf, run_underlying hu, hb, hbb], .int _ _⟩
    · cases hk
  · cases h

theorem aextract_sound {x z : AV} {v : Value} {i : Nat} (h : aextract x i = some z) (hx : RV w F A m x v) : ∃ r, (Instr.extract v i).run P w = .ok r w ∧ RV w F A m z r := by
  unfold aextract at h
  split at h <;> try (cases h; done)
  cases hx with
  | tup cs vs hl hc =>
    obtain ⟨r, hr, hx⟩ := RV.getElem hl hc h
    exact ⟨r, by simp [Instr.extract, hr], hx⟩

theorem alen_sound {t ty : TypeId} {x z : AV} {v : Value} (h : alen P t x = some z) (hx : RV w F A m x v) : ∃ r, (Builtin.len_ #[t] ty #[v]).run P w = .ok r w ∧ RV w F A m z r := by
  rw [alen_old] at h
  split at h
  · rename_i e sz rows hu
    simp only [Option.some.injEq] at h
    subst h
    cases hx <;> exact ⟨_, by simp [Builtin.len_, run_underlying hu, goInt] <;> rfl, .int _ _⟩
  · rename_i e _ _ _ len hu
    simp only [Option.some.injEq] at h
    subst h
    cases hx
    exact ⟨_, by simp [Builtin.len_, run_underlying hu, goInt] <;> rfl, .int _ _⟩
  · rename_i e hu
    simp only [Option.some.injEq] at h
    subst h
    cases hx
    exact ⟨_, by simp [Builtin.len_, run_underlying hu, goInt] <;> rfl, .int _ _⟩
  · rename_i e _ hu
    simp only [Option.some.injEq] at h
    subst h
    cases hx
    exact ⟨_, by simp [Builtin.len_, run_underlying hu, goInt] <;> rfl, .int _ _⟩
  · rename_i s hu
    simp only [Option.some.injEq] at h
    subst h
    cases hx
    exact ⟨_, by simp [Builtin.len_, run_underlying hu, goInt] <;> rfl, .int _ _⟩
  · rename_i x' n e hu
    simp only [Option.some.injEq] at h
    subst h
    exact ⟨_, by simp [Builtin.len_, run_underlying hu, goInt] <;> rfl, .int _ _⟩
  · cases h

theorem amin_sound {x y z : AV} {v u : Value} {ty : TypeId} {ts : Array TypeId} (h : amin x y = some z) (hx : RV w F A m x v) (hy : RV w F A m y u) :
    ∃ r, (Builtin.min_ ts ty #[v, u]).run P w = .ok r w ∧ RV w F A m z r := by
  unfold amin at h
  split at h <;> try (cases h; done)
  cases hx; cases hy
  simp only [Option.some.injEq] at h
  subst h
  exact ⟨_, by simp [Builtin.min_, Builtin.min2] <;> rfl, .int _ _⟩

theorem amax_sound {x y z : AV} {v u : Value} {ty : TypeId} {ts : Array TypeId} (h : amax x y = some z) (hx : RV w F A m x v) (hy : RV w F A m y u) :
    ∃ r, (Builtin.max_ ts ty #[v, u]).run P w = .ok r w ∧ RV w F A m z r := by
  unfold amax at h
  split at h <;> try (cases h; done)
  cases hx; cases hy
  simp only [Option.some.injEq] at h
  subst h
  exact ⟨_, by simp [Builtin.max_, Builtin.max2] <;> rfl, .int _ _⟩

/-- Lists of values, one by one. -/
def RL (w : World) (F A : Nat → Prop) (m : Nat → Nat) (cs : List AV) (vs : List Value) : Prop :=
  cs.length = vs.length ∧ ∀ (i : Nat) (a : AV) (v : Value), cs[i]? = some a → vs[i]? = some v → RV w F A m a v

theorem cells_sound {x : AV} {cs : List AV} {v : Value} (h : x.cells? = some cs) (hx : RV w F A m x v) : RL w F A m cs v.cells.toList := by
  have one : ∀ {x : AV} {v : Value}, RV w F A m x v → v.cells = #[v] → RL w F A m [x] v.cells.toList := by
    intro x v hx hv
    rw [hv]
    refine ⟨rfl, fun i a u h1 h2 => ?_⟩
    cases i with
    | zero => simp at h1 h2; subst h1 h2; exact hx
    | succ i => simp at h1
  cases x <;> simp only [AV.cells?, Option.some.injEq] at h <;> first
    | (cases h; done)
    | (subst h; exact one hx (by cases hx <;> rfl))
    | skip
  · subst h
    cases hx with
    | agg cs vs hl hc => exact ⟨by simpa [Value.cells] using hl, by simpa [Value.cells] using hc⟩

theorem RL.set {cs : List AV} {vs : List Value} (h : RL w F A m cs vs) {i : Nat} {a : AV} {v : Value} (hx : RV w F A m a v) : RL w F A m (cs.set i a) (vs.set i v) := by
  refine ⟨by simp [h.1], fun j b u h1 h2 => ?_⟩
  rw [List.getElem?_set] at h1 h2
  by_cases hij : i = j
  · subst hij
    rw [if_pos rfl] at h1 h2
    split at h1
    · split at h2
      · simp only [Option.some.injEq] at h1 h2; subst h1 h2; exact hx
      · cases h2
    · cases h1
  · rw [if_neg hij] at h1 h2
    exact h.2 j b u h1 h2

theorem RL.puts (off : Nat) : ∀ (xs : List AV) (ys : List Value) (k : Nat) (cs : List AV) (vs : List Value), RL w F A m xs ys → RL w F A m cs vs →
    RL w F A m ((xs.zipIdx k).foldl (fun (l : List AV) (p : AV × Nat) => l.set (off + p.2) p.1) cs) ((ys.zipIdx k).foldl (fun (l : List Value) (p : Value × Nat) => l.set (off + p.2) p.1) vs)
  | [], ys, k, cs, vs, h, h' => by
    have : ys = [] := List.eq_nil_of_length_eq_zero (by simpa using h.1.symm)
    subst this
    exact h'
  | x :: xs, [], k, cs, vs, h, h' => by simp [RL] at h
  | x :: xs, y :: ys, k, cs, vs, h, h' => by
    simp only [List.zipIdx_cons, List.foldl_cons]
    refine RL.puts off xs ys (k + 1) _ _ ⟨by simpa using h.1, fun i a v h1 h2 => h.2 (i + 1) a v (by simpa using h1) (by simpa using h2)⟩ ?_
    exact h'.set (h.2 0 x y rfl rfl)

theorem afill_sound (place : Nat → Option (Nat × Nat)) : ∀ (parts : List (Nat × AV)) (parts' : List (Nat × Value)) (cs : List AV) (vs : Array Value) (out : List AV),
    afill place cs parts = some out → parts.length = parts'.length → (∀ (i : Nat) (p : Nat × AV) (q : Nat × Value), parts[i]? = some p → parts'[i]? = some q → p.1 = q.1 ∧ RV w F A m p.2 q.2) →
    RL w F A m cs vs.toList → ∃ out', Instr.fill place vs parts' = some out' ∧ RL w F A m out out'.toList
  | [], [], cs, vs, out, h, _, _, hc => by
    simp only [afill, Option.some.injEq] at h
    subst h
    exact ⟨vs, rfl, hc⟩
  | [], _ :: _, _, _, _, _, hl, _, _ => by simp at hl
  | _ :: _, [], _, _, _, _, hl, _, _ => by simp at hl
  | (i, x) :: rest, (i', v) :: rest', cs, vs, out, h, hl, hp, hc => by
    obtain ⟨e, hx⟩ := hp 0 _ _ rfl rfl
    simp only at e hx
    subst e
    simp only [afill] at h
    split at h
    · rename_i off size cs' hpl hcs
      split at h
      · cases h
      · rename_i hok
        have hcv := cells_sound hcs hx
        obtain ⟨out', ho, hr⟩ := afill_sound place rest rest' _ (v.cells.zipIdx.foldl (fun cs (c, j) => cs.setIfInBounds (off + j) c) vs) out h (by simpa using hl)
          (fun j p q h1 h2 => hp (j + 1) p q (by simpa using h1) (by simpa using h2)) (by
            rw [← Array.foldl_toList, Array.toList_zipIdx]
            have key : ∀ (l : List (Value × Nat)) (z : Array Value), (l.foldl (fun (cs : Array Value) (p : Value × Nat) => cs.setIfInBounds (off + p.2) p.1) z).toList = l.foldl (fun (l : List Value) (p : Value × Nat) => l.set (off + p.2) p.1) z.toList := by
              intro l
              induction l with
              | nil => intro z; rfl
              | cons p l ih => intro z; simp only [List.foldl_cons, ih, Array.toList_setIfInBounds]
            rw [key]
            exact RL.puts off _ _ 0 _ _ hcv hc)
        refine ⟨out', ?_, hr⟩
        have h1 : v.cells.size = cs'.length := by simpa using hcv.1.symm
        have h2 : vs.size = cs.length := by simpa using hc.1.symm
        simp only [Instr.fill, hpl, h1, h2, ne_eq] at ho ⊢
        rw [if_neg (by simpa using hok)]
        exact ho
    · cases h

theorem run_places : ∀ (fs : List Field) (l : List (Nat × Nat)) (acc : Array (Nat × Nat)), fieldPlaces P fs = some l →
    (fs.foldlM (fun (acc : Array (Nat × Nat)) f => do pure (acc.push (← (do pure (f.offset, ← sizeOf f.type) : Sem (Nat × Nat))))) acc : Sem (Array (Nat × Nat))).run P w = .ok (acc ++ l.toArray) w
  | [], l, acc, h => by
    simp only [fieldPlaces, Option.some.injEq] at h
    subst h
    simp
  | f :: fs, l, acc, h => by
    simp only [fieldPlaces] at h
    split at h
    · rename_i n l' hn hl
      simp only [Option.some.injEq] at h
      subst h
      have ih := run_places fs l' (acc.push (f.offset, n)) hl
      simp only [List.foldlM_cons, Sem.run_bind, run_sizeOf hn, Result.andThen_ok, Sem.run_pure, ih]
      congr 1
      apply Array.toList_inj.1
      simp
    · cases h

theorem rl_ofCell (cs : Array Value) : RL w F A m (cs.toList.map ofCell) cs.toList :=
  ⟨by simp, fun i a v h1 h2 => rv_list_ofCell cs i a v h1 (by simpa using h2)⟩

theorem abuild_sound {t : TypeId} {parts : List (Nat × AV)} {parts' : Array (Nat × Value)} {z : AV} (h : abuild P t parts = some z) (hl : parts.length = parts'.size)
    (hp : ∀ (i : Nat) (p : Nat × AV) (q : Nat × Value), parts[i]? = some p → parts'[i]? = some q → p.1 = q.1 ∧ RV w F A m p.2 q.2) :
    ∃ r, (Instr.build t parts').run P w = .ok r w ∧ RV w F A m z r := by
  rw [abuild_old] at h
  split at h <;> try (cases h; done)
  rename_i i hi
  split at h <;> try (cases h; done)
  rename_i zv hz
  have hzero : (zeroValue t).run P w = .ok zv w := by simp [zeroValue, typeInfo, hi, hz]
  split at h
  · rename_i fields hu
    split at h <;> try (cases h; done)
    rename_i places hpl
    cases hf : afill (places[·]?) (zv.cells.toList.map ofCell) parts with
    | none => simp [hf] at h
    | some out =>
      simp only [hf, Option.map_some, Option.some.injEq] at h
      subst h
      obtain ⟨out', ho, hr⟩ := afill_sound (w := w) (F := F) (A := A) (m := m) (places[·]?) parts parts'.toList _ zv.cells out hf (by simpa using hl) (fun i p q h1 h2 => hp i p q h1 (by simpa using h2)) (rl_ofCell _)
      have hm : (fields.mapM fun f => do pure (f.offset, ← sizeOf f.type) : Sem (Array (Nat × Nat))).run P w = .ok places.toArray w := by
        rw [Array.mapM_eq_foldlM, ← Array.foldlM_toList]
        have := run_places (P := P) (w := w) fields.toList places #[] hpl
        simpa using this
      refine ⟨.agg out', ?_, .agg _ _ (by simpa using hr.1) (fun i a v h1 h2 => hr.2 i a v h1 (by simpa using h2))⟩
      simp only [Instr.build, Sem.run_bind, hzero, Result.andThen_ok, run_underlying hu, hm]
      have ho' : Instr.fill (fun x => places.toArray[x]?) zv.cells parts'.toList = some out' := by simpa using ho
      rw [ho']
      rfl
  · rename_i n e hu
    split at h <;> try (cases h; done)
    rename_i sz hsz
    cases hf : afill (fun i => some (i * sz, sz)) (zv.cells.toList.map ofCell) parts with
    | none => simp [hf] at h
    | some out =>
      simp only [hf, Option.map_some, Option.some.injEq] at h
      subst h
      obtain ⟨out', ho, hr⟩ := afill_sound (w := w) (F := F) (A := A) (m := m) (fun i => some (i * sz, sz)) parts parts'.toList _ zv.cells out hf (by simpa using hl) (fun i p q h1 h2 => hp i p q h1 (by simpa using h2)) (rl_ofCell _)
      refine ⟨.agg out', ?_, .agg _ _ (by simpa using hr.1) (fun i a v h1 h2 => hr.2 i a v h1 (by simpa using h2))⟩
      simp [Instr.build, hzero, run_underlying hu, run_sizeOf hsz, ho]
  · cases h

/-- THE OPERATIONS THAT TOUCH NO MEMORY. -/
theorem aval_sound {fr : AFr} {a : Act} {o : Oper} {z : AV} (h : aval P fr.eval o.op = some z) (hf : RF w F A m fr a.tmps) :
    ∃ r, (execOp a.eval o).run P w = .ok (.value r) w ∧ RV w F A m z r := by
  obtain ⟨dst, op, type, pos, after, guard⟩ := o
  have lift : ∀ {s : Sem Value}, (∃ r, s.run P w = .ok r w ∧ RV w F A m z r) → ∃ r, (do pure (Next.value (← s)) : Sem Next).run P w = .ok (.value r) w ∧ RV w F A m z r :=
    fun ⟨r, h1, h2⟩ => ⟨r, by simp [h1], h2⟩
  have opt : ∀ x : Option Operand, ROpt w F A m (x.map fr.eval) (x.map a.eval) := fun x => by
    cases x with
    | none => exact ⟨fun _ h => by simp at h, fun _ => rfl⟩
    | some x => exact ⟨fun y h => ⟨_, rfl, by simp at h; exact h ▸ hf.eval x⟩, fun h => by simp at h⟩
  cases op <;> simp only [aval] at h <;> first | (cases h; done) | skip
  case move x => simp only [Option.some.injEq] at h; subst h; exact ⟨_, rfl, hf.eval x⟩
  case assign x => simp only [Option.some.injEq] at h; subst h; exact ⟨_, rfl, hf.eval x⟩
  case pick c x y =>
    unfold apick at h
    split at h <;> try (cases h; done)
    rename_i t ht
    simp only [Option.some.injEq] at h
    subst h
    have hc := hf.eval c
    rw [ht] at hc
    generalize hv : a.eval c = v at hc
    cases hc
    refine ⟨_, by simp only [execOp, hv, asBool]; rfl, ?_⟩
    cases t
    · exact hf.eval y
    · exact hf.eval x
  case build t parts =>
    refine lift (abuild_sound h (by simp) ?_)
    intro i p q h1 h2
    simp only [List.getElem?_map, Array.getElem?_toList, Option.map_eq_some_iff, Array.getElem?_map] at h1 h2
    obtain ⟨p0, e1, rfl⟩ := h1
    obtain ⟨p1, e2, rfl⟩ := h2
    rw [e1] at e2
    simp only [Option.some.injEq] at e2
    subst e2
    exact ⟨rfl, hf.eval _⟩
  case nilCheck x =>
    have hx := hf.eval x
    unfold anil at h
    split at h <;> try (cases h; done)
    all_goals
      rename_i hx'
      simp only [Option.some.injEq] at h
      subst h
      rw [hx'] at hx ⊢
      generalize hv : a.eval x = v at hx
      refine ⟨v, ?_, hx⟩
      cases hx <;> simp [execOp, hv]
  case binOp op t x y yt => exact lift (abin_sound h (hf.eval x) (hf.eval y))
  case unOp op t x => exact lift (aun_sound h (hf.eval x))
  case convert s d x => exact lift (aconv_sound h (hf.eval x))
  case makeFunc fn first caps =>
    cases fn <;> first | (cases h; done) | skip
    have h := Option.some.inj h
    subst h
    have all : ∀ xs : Array Operand, ∀ (i : Nat) (b : AV) (v : Value), (xs.toList.map fr.eval)[i]? = some b → (xs.map a.eval)[i]? = some v → RV w F A m b v := by
      intro xs i b v h1 h2
      simp only [List.getElem?_map, Array.getElem?_toList, Option.map_eq_some_iff, Array.getElem?_map] at h1 h2
      obtain ⟨p0, e1, rfl⟩ := h1
      obtain ⟨p1, e2, rfl⟩ := h2
      rw [e1] at e2
      simp only [Option.some.injEq] at e2
      subst e2
      exact hf.eval _
    exact ⟨_, rfl, .clo _ _ _ _ _ (by simp) (by simp) (all first) (all caps)⟩
  case slice t x lo hi mx => exact lift (aslice_sound h (hf.eval x) (opt lo) (opt hi) (opt mx))
  case fieldAddr s x f => exact lift (afieldAddr_sound h (hf.eval x))
  case field s x f => exact lift (afield_sound h (hf.eval x))
  case indexAddr t x i => exact lift (aindexAddr_sound h (hf.eval x) (hf.eval i))
  case index t x i => exact lift (aindex_sound h (hf.eval x) (hf.eval i))
  case extract x i => exact lift (aextract_sound h (hf.eval x))
  case call c =>
    obtain ⟨callee, args, argTypes⟩ := c
    cases callee <;> first | (cases h; done) | skip
    rename_i b
    cases b <;> first | (cases h; done) | skip
    all_goals dsimp only at h
    · split at h <;> try (cases h; done)
      rename_i x t ha ht
      have ha : args = #[x] := Array.toList_inj.1 ha
      have ht : argTypes = #[t] := Array.toList_inj.1 ht
      subst ha ht
      obtain ⟨r, h1, h2⟩ := alen_sound (ty := type) h (hf.eval x)
      exact ⟨r, by simp [execOp, resolve, invoke, builtin, h1], h2⟩
    · split at h <;> try (cases h; done)
      rename_i x y ha
      have ha : args = #[x, y] := Array.toList_inj.1 ha
      subst ha
      obtain ⟨r, h1, h2⟩ := amax_sound (P := P) (ty := type) (ts := argTypes) h (hf.eval x) (hf.eval y)
      exact ⟨r, by simp [execOp, resolve, invoke, builtin, h1], h2⟩
    · split at h <;> try (cases h; done)
      rename_i x y ha
      have ha : args = #[x, y] := Array.toList_inj.1 ha
      subst ha
      obtain ⟨r, h1, h2⟩ := amin_sound (P := P) (ty := type) (ts := argTypes) h (hf.eval x) (hf.eval y)
      exact ⟨r, by simp [execOp, resolve, invoke, builtin, h1], h2⟩
end
end Go.Abs
