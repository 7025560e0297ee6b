/-
  How a printed function is run by simp.
-/
import Derived.Test.YtgcfbommjdcgkaaAbs18
import Derived.IntWalk
set_option linter.unusedSimpArgs false
set_option linter.unusedVariables false
namespace Go.Abs

theorem op_some {β : Type} (v : AV) (H : AHeap) (k : AV → AHeap → Option β) : op (some (v, H)) k = k v H := rfl
theorem lift_some (v : AV) (H : AHeap) : lift (some v) H = some (v, H) := rfl
theorem liftS_some (H : AHeap) : liftS (some H) = some (.undef, H) := rfl
theorem gw_bool (b w : Bool) : gw (.bool b) w = some (b == w) := rfl
theorem gd_true (x : Option (AV × AHeap)) (H : AHeap) : gd (some true) x H = x := rfl
theorem gd_false (x : Option (AV × AHeap)) (H : AHeap) : gd (some false) x H = some (.tup [], H) := rfl
theorem areg_some (fr : AFr) (H : AHeap) : areg (some (fr, H)) = some (.normal, fr, H) := rfl
theorem aseq_normal (fr : AFr) (H : AHeap) (k : AFr → AHeap → ARes) : aseq (some (.normal, fr, H)) k = k fr H := rfl
theorem aseq_exit (n : Nat) (fr : AFr) (H : AHeap) (k : AFr → AHeap → ARes) : aseq (some (.exit n, fr, H)) k = some (.exit n, fr, H) := rfl
theorem aseq_ret (fr : AFr) (H : AHeap) (k : AFr → AHeap → ARes) : aseq (some (.ret, fr, H)) k = some (.ret, fr, H) := rfl
theorem acond_true (x y : ARes) : acond (.bool true) x y = x := rfl
theorem acond_false (x y : ARes) : acond (.bool false) x y = y := rfl
theorem acond_bool (b : Bool) (x y : ARes) : acond (.bool b) x y = if b = true then x else y := rfl
theorem aexit_normal (n : Nat) (fr : AFr) (H : AHeap) : aexit n (some (.normal, fr, H)) = some (.normal, fr, H) := rfl
theorem aexit_ret (n : Nat) (fr : AFr) (H : AHeap) : aexit n (some (.ret, fr, H)) = some (.ret, fr, H) := rfl
theorem aexit_exit (n k : Nat) (fr : AFr) (H : AHeap) : aexit n (some (.exit k, fr, H)) = if k = n then some (.normal, fr, H) else some (.exit k, fr, H) := rfl
theorem al_get (k t : Nat) (v : AV) (l : List (Nat × AV)) : AFr.al ((k, v) :: l) t = if t = k then v else AFr.al l t := rfl
theorem afinR_normal (g : AFr → AHeap → Option (List AV)) (fr : AFr) (H : AHeap) : afinR g (some (.normal, fr, H)) = match g fr H with | some l => some (l, H) | none => none := rfl
theorem afinR_ret (g : AFr → AHeap → Option (List AV)) (fr : AFr) (H : AHeap) : afinR g (some (.ret, fr, H)) = match g fr H with | some l => some (l, H) | none => none := rfl
theorem apick_bool (b : Bool) (x y : AV) : apick (.bool b) x y = some (if b = true then x else y) := by cases b <;> rfl

theorem anil_ptr (b sz i j : Nat) : anil (.ptr b sz i j) = some (.ptr b sz i j) := rfl
theorem anil_rptr (sz : Nat) (rows : List (List AV)) (i j : Nat) : anil (.rptr sz rows i j) = some (.rptr sz rows i j) := rfl
theorem fieldAddr_ptr (o b sz i j : Nat) : afieldAddrR (some o) (.ptr b sz i j) = some (.ptr b sz i (j + o)) := rfl
theorem fieldAddr_rptr (o sz : Nat) (rows : List (List AV)) (i j : Nat) : afieldAddrR (some o) (.rptr sz rows i j) = some (.rptr sz rows i (j + o)) := rfl
theorem load_ptr (r : Option (Option Nat)) (b sz i j : Nat) (H : AHeap) (blk : Blk) (row : List AV) (h : H.get b = some blk) (hs : blk.sz = sz) (hr : blk.rows[i]? = some row) : aloadR r (.ptr b sz i j) H = readRowR r row j := by
  simp [aloadR, h, hs, hr]
theorem load_rptr (r : Option (Option Nat)) (sz : Nat) (rows : List (List AV)) (i j : Nat) (H : AHeap) (row : List AV) (hr : rows[i]? = some row) : aloadR r (.rptr sz rows i j) H = readRowR r row j := by
  simp [aloadR, hr]
theorem store_ptr (b sz i j : Nat) (v : AV) (H : AHeap) (blk : Blk) (row : List AV) (h : H.get b = some blk) (hv : v.isCell = true) (hs : blk.sz = sz) (hr : blk.rows[i]? = some row) (hj : j < sz) :
    astoreR (some 1) (.ptr b sz i j) v H = some (H.set b (some { e := blk.e, sz := blk.sz, flat := blk.flat && v.flat, rows := blk.rows.set i (row.set j v) })) := by
  have h1 : j + 1 ≤ sz := hj
  have hc : v.cells? = some [v] := by cases v <;> first | rfl | (simp [AV.isCell] at hv)
  simp [astoreR, h, hc, hv, hs, hr, h1, setCells]
theorem cells_int (k : IntKind) (n : Int) : (AV.int k n).cells? = some [.int k n] := (id rfl : _)
theorem cells_bool (x : Bool) : (AV.bool x).cells? = some [.bool x] := (id rfl : _)
theorem cells_sl (b sz off len : Nat) : (AV.sl b sz off len).cells? = some [.sl b sz off len] := (id rfl : _)
theorem cells_rsl (sz : Nat) (rows : List (List AV)) : (AV.rsl sz rows).cells? = some [.rsl sz rows] := (id rfl : _)
theorem cells_ptr (b sz i j : Nat) : (AV.ptr b sz i j).cells? = some [.ptr b sz i j] := (id rfl : _)
theorem cells_nils : AV.nils.cells? = some [.nils] := (id rfl : _)
theorem cells_agg (cs : List AV) : (AV.agg cs).cells? = some cs := (id rfl : _)
theorem isCell_int (k : IntKind) (n : Int) : (AV.int k n).isCell = true := (id rfl : _)
theorem isCell_bool (x : Bool) : (AV.bool x).isCell = true := (id rfl : _)
theorem isCell_sl (b sz off len : Nat) : (AV.sl b sz off len).isCell = true := (id rfl : _)
theorem isCell_rsl (sz : Nat) (rows : List (List AV)) : (AV.rsl sz rows).isCell = true := (id rfl : _)
theorem isCell_ptr (b sz i j : Nat) : (AV.ptr b sz i j).isCell = true := (id rfl : _)
theorem isCell_nils : AV.nils.isCell = true := (id rfl : _)
theorem flat_int (k : IntKind) (n : Int) : (AV.int k n).flat = true := (id rfl : _)
theorem flat_bool (x : Bool) : (AV.bool x).flat = true := (id rfl : _)
theorem flat_sl (b sz off len : Nat) : (AV.sl b sz off len).flat = false := (id rfl : _)
theorem flat_rsl (sz : Nat) (rows : List (List AV)) : (AV.rsl sz rows).flat = true := (id rfl : _)
theorem flat_ptr (b sz i j : Nat) : (AV.ptr b sz i j).flat = false := (id rfl : _)
theorem flat_nils : AV.nils.flat = true := (id rfl : _)
theorem get_set_self (H : AHeap) (b : Nat) (x : Option Blk) : (H.set b x).get b = x := by simp [AHeap.set]
theorem get_set_ne (H : AHeap) (b c : Nat) (x : Option Blk) (h : c ≠ b) : (H.set b x).get c = H.get c := by simp [AHeap.set, h]
theorem get_push_self (H : AHeap) (x : Blk) : (H.push x).get H.next = some x := by simp [AHeap.push]
theorem get_push_ne (H : AHeap) (c : Nat) (x : Blk) (h : c ≠ H.next) : (H.push x).get c = H.get c := by simp [AHeap.push, h]
theorem set_set (H : AHeap) (b : Nat) (x y : Option Blk) : (H.set b x).set b y = H.set b y := by
  refine AHeap.eq_of rfl (funext fun c => ?_)
  simp only [AHeap.set]
  split <;> rfl
theorem set_get (H : AHeap) (b : Nat) (x : Blk) (h : H.get b = some x) : H.set b (some x) = H := by
  refine AHeap.eq_of rfl (funext fun c => ?_)
  simp only [AHeap.set]
  split
  · rename_i e; subst e; exact h.symm
  · rfl
theorem readRow_cell (row : List AV) (j : Nat) : readRowR (some none) row j = row[j]? := rfl
theorem readRow_agg (n : Nat) (row : List AV) (j : Nat) : readRowR (some (some n)) row j = if j + n ≤ row.length then some (.agg ((row.drop j).take n)) else none := rfl
theorem bin_add (q : QK) (k : IntKind) (a b : Int) : abinR q .add (.int k a) (.int k b) = some (.int k (k.wrap (a + b))) := by simp [abinR, isShift, aarith]
theorem bin_sub (q : QK) (k : IntKind) (a b : Int) : abinR q .sub (.int k a) (.int k b) = some (.int k (k.wrap (a - b))) := by simp [abinR, isShift, aarith]
theorem bin_mul (q : QK) (k : IntKind) (a b : Int) : abinR q .mul (.int k a) (.int k b) = some (.int k (k.wrap (a * b))) := by simp [abinR, isShift, aarith]
theorem bin_eql (q : QK) (k : IntKind) (a b : Int) : abinR q .eql (.int k a) (.int k b) = some (.bool (a == b)) := by simp [abinR, isShift, aarith]
theorem bin_neq (q : QK) (k : IntKind) (a b : Int) : abinR q .neq (.int k a) (.int k b) = some (.bool (a != b)) := by simp [abinR, isShift, aarith]
theorem bin_lss (q : QK) (k : IntKind) (a b : Int) : abinR q .lss (.int k a) (.int k b) = some (.bool (a < b)) := by simp [abinR, isShift, aarith]
theorem bin_leq (q : QK) (k : IntKind) (a b : Int) : abinR q .leq (.int k a) (.int k b) = some (.bool (a ≤ b)) := by simp [abinR, isShift, aarith]
theorem bin_gtr (q : QK) (k : IntKind) (a b : Int) : abinR q .gtr (.int k a) (.int k b) = some (.bool (a > b)) := by simp [abinR, isShift, aarith]
theorem bin_geq (q : QK) (k : IntKind) (a b : Int) : abinR q .geq (.int k a) (.int k b) = some (.bool (a ≥ b)) := by simp [abinR, isShift, aarith]
theorem bin_and (q : QK) (k : IntKind) (a b : Int) : abinR q .and (.int k a) (.int k b) = some (.int k (k.wrap (BitVec.ofInt k.bits a &&& BitVec.ofInt k.bits b).toNat)) := by simp [abinR, isShift, aarith]
theorem bin_or (q : QK) (k : IntKind) (a b : Int) : abinR q .or (.int k a) (.int k b) = some (.int k (k.wrap (BitVec.ofInt k.bits a ||| BitVec.ofInt k.bits b).toNat)) := by simp [abinR, isShift, aarith]
theorem bin_xor (q : QK) (k : IntKind) (a b : Int) : abinR q .xor (.int k a) (.int k b) = some (.int k (k.wrap (BitVec.ofInt k.bits a ^^^ BitVec.ofInt k.bits b).toNat)) := by simp [abinR, isShift, aarith]
theorem bin_andNot (q : QK) (k : IntKind) (a b : Int) : abinR q .andNot (.int k a) (.int k b) = some (.int k (k.wrap (BitVec.ofInt k.bits a &&& ~~~ BitVec.ofInt k.bits b).toNat)) := by simp [abinR, isShift, aarith]
theorem bin_quo (q : QK) (k : IntKind) (a b : Int) (h : b ≠ 0) : abinR q .quo (.int k a) (.int k b) = some (.int k (k.wrap (a.tdiv b))) := by simp [abinR, isShift, aarith, h]
theorem bin_rem (q : QK) (k : IntKind) (a b : Int) (h : b ≠ 0) : abinR q .rem (.int k a) (.int k b) = some (.int k (a.tmod b)) := by simp [abinR, isShift, aarith, h]
theorem bin_shl (q : QK) (k k' : IntKind) (a b : Int) (h : 0 ≤ b) : abinR q .shl (.int k a) (.int k' b) = some (.int k (k.wrap (a * 2 ^ (min b.toNat k.bits)))) := by
  have : ¬ b < 0 := by omega
  simp [abinR, isShift, ashift, this]
theorem bin_shr (q : QK) (k k' : IntKind) (a b : Int) (h : 0 ≤ b) : abinR q .shr (.int k a) (.int k' b) = some (.int k (a.fdiv (2 ^ (min b.toNat k.bits)))) := by
  have : ¬ b < 0 := by omega
  simp [abinR, isShift, ashift, this]
theorem bin_bool (o : BinOp) (a b : Bool) : abinR .b o (.bool a) (.bool b) = eqRes o (a == b) := rfl
theorem len_rsl (sz : Nat) (rows : List (List AV)) : alenR .sl (.rsl sz rows) = some (.int .i64 rows.length) := rfl
theorem len_sl (b sz off len : Nat) : alenR .sl (.sl b sz off len) = some (.int .i64 len) := rfl
theorem len_nils : alenR .sl .nils = some (.int .i64 0) := rfl
theorem index_rsl (n sz : Nat) (rows : List (List AV)) (k : IntKind) (i : Int) (hn : n = sz) (h0 : 0 ≤ i) (h1 : i < rows.length) : aindexAddrR (.sl n) (.rsl sz rows) (.int k i) = some (.rptr sz rows i.toNat 0) := by
  simp [aindexAddrR, hn, h0, h1]
theorem index_sl (n b sz off len : Nat) (k : IntKind) (i : Int) (hn : n = sz) (h0 : 0 ≤ i) (h1 : i < len) : aindexAddrR (.sl n) (.sl b sz off len) (.int k i) = some (.ptr b sz (off + i.toNat) 0) := by
  simp [aindexAddrR, hn, h0, h1]
theorem extract_tup (vs : List AV) (i : Nat) : aextract (.tup vs) i = vs[i]? := rfl
theorem conv_int (k k' : IntKind) (n : Int) : aconvR (some k) (.int k' n) = some (.int k (k.wrap n)) := rfl
theorem not_bool (b : Bool) : aun .not (.bool b) = some (.bool !b) := rfl
theorem frzMask_nil (H : AHeap) (l : List (List (Option Nat))) (cs : List AV) : frzMask H [] l cs = some (cs, []) := rfl
theorem frzMask_false (H : AHeap) (ms : List Bool) (n : List (Option Nat)) (l : List (List (Option Nat))) (a : AV) (cs : List AV) :
    frzMask H (false :: ms) (n :: l) (a :: cs) = match frzMask H ms l cs with | some (cs', S') => some (a :: cs', S') | none => none := rfl
/-- Nothing is handed over by its content. -/
theorem callM_all (ms : List Bool) (spec : SpecM) (l : List (List (Option Nat))) (args : List AV) (H : AHeap) (h : frzMask H ms l args = some (args, [])) : callM ms spec l args H = spec args H := by
  simp [callM, h]

theorem AHeap.trunc_self {H : AHeap} (h : H.WF) : H.trunc H.next = H := by
  refine AHeap.eq_of rfl (funext fun b => ?_)
  simp only [AHeap.trunc]
  split
  · rfl
  · rename_i hb
    cases hg : H.get b with
    | none => rfl
    | some x => exact (hb (h b x hg)).elim

theorem canTrunc_refl (H : AHeap) : CanTrunc H H := fun _ _ => .inl rfl

/-- Every reference is one to a block that there is. -/
structure AHeap.OK (H : AHeap) : Prop where
  wf : H.WF
  ids : ∀ b blk, H.get b = some blk → ∀ row, row ∈ blk.rows → ∀ a, a ∈ row → idsBelow H.next a = true

theorem forget_same {H : AHeap} {rs : List AV} (h : H.WF) (hc : (mkRes rs).closed = true) : forget H (some (rs, H)) = some (mkRes rs, H) := by
  unfold forget
  dsimp only
  rw [if_pos ⟨hc, canTrunc_refl H, Nat.le_refl _⟩, AHeap.trunc_self h]

theorem forget_ok {H H' : AHeap} {rs : List AV} (h : H'.OK) (hn : H'.next = H.next) (hc : (mkRes rs).closed = true) : forget H (some (rs, H')) = some (mkRes rs, H') := by
  unfold forget
  dsimp only
  rw [if_pos ⟨hc, fun b _ => .inr fun blk hb row hr a ha => hn ▸ h.ids b blk hb row hr a ha, Nat.le_of_eq hn.symm⟩, ← hn, AHeap.trunc_self h.wf]

theorem AHeap.OK.set {H : AHeap} {b : Nat} {x y : Blk} (h : H.OK) (hb : H.get b = some y) (hx : ∀ row, row ∈ x.rows → ∀ a, a ∈ row → idsBelow H.next a = true) : (H.set b (some x)).OK := by
  refine ⟨fun b' z hz => ?_, fun b' z hz => ?_⟩
  · rw [AHeap.get_set] at hz
    rw [AHeap.next_set]
    split at hz
    · rename_i e; subst e; exact h.wf _ _ hb
    · exact h.wf b' z hz
  · rw [AHeap.get_set] at hz
    rw [AHeap.next_set]
    split at hz
    · simp only [Option.some.injEq] at hz; subst hz; exact hx
    · exact h.ids b' z hz

theorem idsBelow_mono {n n' : Nat} {a : AV} (h : idsBelow n a = true) (hn : n ≤ n') : idsBelow n' a = true := by
  unfold idsBelow at h ⊢
  split at h
  · simp only [decide_eq_true_eq] at h ⊢; omega
  · simp only [decide_eq_true_eq] at h ⊢; omega
  · exact h

theorem AHeap.OK.push {H : AHeap} {x : Blk} (h : H.OK) (hx : ∀ row, row ∈ x.rows → ∀ a, a ∈ row → idsBelow (H.next + 1) a = true) : (H.push x).OK := by
  refine ⟨fun b' z hz => ?_, fun b' z hz => ?_⟩
  · rw [AHeap.get_push] at hz
    rw [AHeap.next_push]
    split at hz
    · omega
    · have := h.wf b' z hz; omega
  · rw [AHeap.get_push] at hz
    rw [AHeap.next_push]
    split at hz
    · simp only [Option.some.injEq] at hz; subst hz; exact hx
    · exact fun row hr a ha => idsBelow_mono (h.ids b' z hz row hr a ha) (by omega)

theorem AHeap.OK.empty : AHeap.empty.OK := ⟨fun b x h => by simp [AHeap.empty] at h, fun b x h => by simp [AHeap.empty] at h⟩
end Go.Abs
