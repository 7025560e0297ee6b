/-
  Running printed functions by simp.
-/
import Derived.Test.YtgcfbommjdcgkaaAbs20
set_option linter.unusedSimpArgs false
set_option linter.unusedVariables false
namespace Go.Abs

/-! Only what is done next is looked into: what comes behind lies in an instance, where simp does not look. -/
class Cont (β : Type) where
  run : AV → AHeap → Option β
class ContF where
  run : AFr → AHeap → ARes
class Later (α : Type) where
  it : α
def opi {β : Type} (x : Option (AV × AHeap)) [K : Cont β] : Option β := op x K.run
def aseqi (r : ARes) [K : ContF] : ARes := aseq r K.run
def acondi (v : AV) [X : Later ARes] [Y : Later ARes] : ARes := acond v X.it Y.it
def gdi (g : Option Bool) [X : Later (Option (AV × AHeap))] (H : AHeap) : Option (AV × AHeap) := gd g X.it H
@[simp] theorem opi_some {β : Type} (v : AV) (H : AHeap) (k : AV → AHeap → Option β) : @opi β (some (v, H)) ⟨k⟩ = k v H := rfl
@[simp] theorem aseqi_normal (fr : AFr) (H : AHeap) (k : AFr → AHeap → ARes) : @aseqi (some (.normal, fr, H)) ⟨k⟩ = k fr H := rfl
@[simp] theorem aseqi_exit (n : Nat) (fr : AFr) (H : AHeap) (k : AFr → AHeap → ARes) : @aseqi (some (.exit n, fr, H)) ⟨k⟩ = some (.exit n, fr, H) := rfl
@[simp] theorem aseqi_ret (fr : AFr) (H : AHeap) (k : AFr → AHeap → ARes) : @aseqi (some (.ret, fr, H)) ⟨k⟩ = some (.ret, fr, H) := rfl
@[simp] theorem acondi_true (x y : ARes) : @acondi (.bool true) ⟨x⟩ ⟨y⟩ = x := rfl
@[simp] theorem acondi_false (x y : ARes) : @acondi (.bool false) ⟨x⟩ ⟨y⟩ = y := rfl
/-- By a proposition. -/
noncomputable def acondp (p : Prop) [X : Later ARes] [Y : Later ARes] : ARes := @ite _ p (Classical.propDecidable p) X.it Y.it
noncomputable def acondO {α : Type} (p : Prop) [X : Later (Option α)] [Y : Later (Option α)] : Option α := @ite _ p (Classical.propDecidable p) X.it Y.it
@[simp low] theorem acondi_bool (b : Bool) (x y : ARes) : @acondi (.bool b) ⟨x⟩ ⟨y⟩ = @acondp (b = true) ⟨x⟩ ⟨y⟩ := by
  show (if b = true then x else y) = @ite _ (b = true) (Classical.propDecidable _) x y
  congr
@[simp] theorem acondp_true (x y : ARes) : @acondp True ⟨x⟩ ⟨y⟩ = x := if_pos trivial
@[simp] theorem acondp_false (x y : ARes) : @acondp False ⟨x⟩ ⟨y⟩ = y := if_neg id
@[simp low] theorem acondp_pos (p : Prop) (x y : ARes) (h : p) : @acondp p ⟨x⟩ ⟨y⟩ = x := if_pos h
@[simp low] theorem acondp_neg (p : Prop) (x y : ARes) (h : ¬ p) : @acondp p ⟨x⟩ ⟨y⟩ = y := if_neg h
theorem acondp_ite (p : Prop) [Decidable p] (x y : ARes) : @acondp p ⟨x⟩ ⟨y⟩ = if p then x else y := by unfold acondp; congr
@[simp] theorem acondO_true {α : Type} (x y : Option α) : @acondO α True ⟨x⟩ ⟨y⟩ = x := if_pos trivial
@[simp] theorem acondO_false {α : Type} (x y : Option α) : @acondO α False ⟨x⟩ ⟨y⟩ = y := if_neg id
@[simp low] theorem acondO_pos {α : Type} (p : Prop) (x y : Option α) (h : p) : @acondO α p ⟨x⟩ ⟨y⟩ = x := if_pos h
@[simp low] theorem acondO_neg {α : Type} (p : Prop) (x y : Option α) (h : ¬ p) : @acondO α p ⟨x⟩ ⟨y⟩ = y := if_neg h
theorem acondO_ite {α : Type} (p : Prop) [Decidable p] (x y : Option α) : @acondO α p ⟨x⟩ ⟨y⟩ = if p then x else y := by unfold acondO; congr
theorem acondO_elim {α : Type} {p : Prop} {x y z : Option α} (h1 : p → x = z) (h2 : ¬ p → y = z) : @acondO α p ⟨x⟩ ⟨y⟩ = z := by
  by_cases h : p
  · rw [acondO_pos _ _ _ h]; exact h1 h
  · rw [acondO_neg _ _ _ h]; exact h2 h
theorem acondp_elim {p : Prop} {x y z : ARes} (h1 : p → x = z) (h2 : ¬ p → y = z) : @acondp p ⟨x⟩ ⟨y⟩ = z := by
  by_cases h : p
  · rw [acondp_pos _ _ _ h]; exact h1 h
  · rw [acondp_neg _ _ _ h]; exact h2 h
@[simp] theorem aseqi_cond (p : Prop) (x y : ARes) (k : AFr → AHeap → ARes) : @aseqi (@acondp p ⟨x⟩ ⟨y⟩) ⟨k⟩ = @acondp p ⟨@aseqi x ⟨k⟩⟩ ⟨@aseqi y ⟨k⟩⟩ := by
  by_cases h : p <;> simp only [h, acondp_true, acondp_false]
@[simp] theorem aexit_cond (n : Nat) (p : Prop) (x y : ARes) : aexit n (@acondp p ⟨x⟩ ⟨y⟩) = @acondp p ⟨aexit n x⟩ ⟨aexit n y⟩ := by
  by_cases h : p <;> simp only [h, acondp_true, acondp_false]
@[simp] theorem afinR_cond (g : AFr → AHeap → Option (List AV)) (p : Prop) (x y : ARes) : afinR g (@acondp p ⟨x⟩ ⟨y⟩) = @acondO _ p ⟨afinR g x⟩ ⟨afinR g y⟩ := by
  by_cases h : p <;> simp only [h, acondp_true, acondp_false, acondO_true, acondO_false]
@[simp] theorem closeUpR_cond (l : Option (List (List (Option Nat)))) (p : Prop) (x y : Option (List AV × AHeap)) : closeUpR l (@acondO _ p ⟨x⟩ ⟨y⟩) = @acondO _ p ⟨closeUpR l x⟩ ⟨closeUpR l y⟩ := by
  by_cases h : p <;> simp only [h, acondO_true, acondO_false]
@[simp] theorem copyUpR_cond (l : Option (List (List (Option Nat)))) (p : Prop) (x y : Option (List AV × AHeap)) : copyUpR l (@acondO _ p ⟨x⟩ ⟨y⟩) = @acondO _ p ⟨copyUpR l x⟩ ⟨copyUpR l y⟩ := by
  by_cases h : p <;> simp only [h, acondO_true, acondO_false]
@[simp] theorem raw_cond (p : Prop) (x y : Option (List AV × AHeap)) : raw (@acondO _ p ⟨x⟩ ⟨y⟩) = @acondO _ p ⟨raw x⟩ ⟨raw y⟩ := by
  by_cases h : p <;> simp only [h, acondO_true, acondO_false]
@[simp] theorem forget_cond (H : AHeap) (p : Prop) (x y : Option (List AV × AHeap)) : forget H (@acondO _ p ⟨x⟩ ⟨y⟩) = @acondO _ p ⟨forget H x⟩ ⟨forget H y⟩ := by
  by_cases h : p <;> simp only [h, acondO_true, acondO_false]
@[congr] theorem gd_congr {g g' : Option Bool} {x : Option (AV × AHeap)} {H : AHeap} (h : g = g') : gd g x H = gd g' x H := by rw [h]
/-- Only where it is asked for. -/
def gdb (c : Bool) (x : Option (AV × AHeap)) (H : AHeap) : Option (AV × AHeap) := gd (some c) x H
@[simp] theorem gd_gdb (c : Bool) (x : Option (AV × AHeap)) (H : AHeap) : gd (some c) x H = gdb c x H := by cases c <;> rfl
@[congr] theorem gdb_congr {c c' : Bool} {x x' : Option (AV × AHeap)} {H : AHeap} (h : c = c') (hx : c' = true → x = x') : gdb c x H = gdb c' x' H := by
  subst h
  cases c
  · rfl
  · rw [hx rfl]
@[simp] theorem gdi_true (x : Option (AV × AHeap)) (H : AHeap) : @gdi (some true) ⟨x⟩ H = x := rfl
@[simp] theorem gdi_false (x : Option (AV × AHeap)) (H : AHeap) : @gdi (some false) ⟨x⟩ H = some (.tup [], H) := rfl
@[simp low] theorem gdi_some (c : Bool) (x : Option (AV × AHeap)) (H : AHeap) : @gdi (some c) ⟨x⟩ H = gdb c x H := rfl
@[simp] theorem gdb_true (x : Option (AV × AHeap)) (H : AHeap) : gdb true x H = x := by cases x <;> rfl
@[simp] theorem gdb_false (x : Option (AV × AHeap)) (H : AHeap) : gdb false x H = some (.tup [], H) := by cases x <;> rfl
@[simp] theorem gw_true (b : Bool) : gw (.bool b) true = some b := by cases b <;> rfl
@[simp] theorem gw_skip (w : Bool) : gw (.tup []) w = some false := rfl
@[simp] theorem gw_false (b : Bool) : gw (.bool b) false = some (!b) := by cases b <;> rfl
/-- A value that is there only where it is asked for. -/
def gdv (c : Bool) (v : AV) : AV := if c then v else .tup []
@[simp] theorem gdv_true (v : AV) : gdv true v = v := rfl
@[simp] theorem gdv_false (v : AV) : gdv false v = .tup [] := rfl
@[simp] theorem gw_gdv (c b w : Bool) : gw (gdv c (.bool b)) w = some (c && (b == w)) := by cases c <;> rfl
@[simp] theorem gd_val (c : Bool) (v : AV) (H : AHeap) : gdb c (some (v, H)) H = some (gdv c v, H) := by cases c <;> rfl
@[simp] theorem pick_or (b c : Bool) : apick (.bool b) (.bool true) (gdv (!b) (.bool c)) = some (.bool (b || c)) := by cases b <;> rfl
@[simp] theorem pick_and (b c : Bool) : apick (.bool b) (gdv b (.bool c)) (.bool false) = some (.bool (b && c)) := by cases b <;> rfl
@[simp] theorem pick_or2 (b c d : Bool) : apick (.bool (b || c)) (.bool true) (gdv (!b && !c) (.bool d)) = some (.bool (b || c || d)) := by cases b <;> cases c <;> rfl
@[simp] theorem pick_or3 (b c d : Bool) : apick (.bool (!b || c)) (.bool true) (gdv (b && !c) (.bool d)) = some (.bool (!b || c || d)) := by cases b <;> cases c <;> rfl
@[simp] theorem pick_or4 (b c d : Bool) : apick (.bool (b || !c)) (.bool true) (gdv (!b && c) (.bool d)) = some (.bool (b || !c || d)) := by cases b <;> cases c <;> rfl
@[simp] theorem pick_or5 (b c d : Bool) : apick (.bool (!b || !c)) (.bool true) (gdv (b && c) (.bool d)) = some (.bool (!b || !c || d)) := by cases b <;> cases c <;> rfl
@[simp] theorem pick_or6 (b c d : Bool) : apick (.bool (b && c)) (.bool true) (gdv (!b || !c) (.bool d)) = some (.bool (b && c || d)) := by cases b <;> cases c <;> rfl
@[simp] theorem pick_or' (b c : Bool) : apick (.bool (!b)) (.bool true) (gdv b (.bool c)) = some (.bool (!b || c)) := by cases b <;> rfl
@[simp] theorem pick_and' (b c : Bool) : apick (.bool (!b)) (gdv (!b) (.bool c)) (.bool false) = some (.bool (!b && c)) := by cases b <;> rfl

attribute [simp] lift_some liftS_some areg_some
  aexit_normal aexit_ret aexit_exit al_get afinR_normal afinR_ret anil_ptr anil_rptr fieldAddr_ptr fieldAddr_rptr
  readRow_cell readRow_agg bin_add bin_sub bin_mul bin_eql bin_neq bin_lss bin_leq bin_gtr bin_geq bin_bool bin_shl bin_shr
  len_rsl len_sl len_nils extract_tup not_bool frzMask_nil frzMask_false set_set
  cells_int cells_bool cells_sl cells_rsl cells_ptr cells_nils cells_agg isCell_int isCell_bool isCell_sl isCell_rsl isCell_ptr isCell_nils
  flat_int flat_bool flat_sl flat_rsl flat_ptr flat_nils AHeap.next_set AHeap.next_push res2 args0 args0L eqRes setCells

@[simp] theorem pick_true (x y : AV) : apick (.bool true) x y = some x := rfl
@[simp] theorem pick_false (x y : AV) : apick (.bool false) x y = some y := rfl

attribute [simp] if_pos if_neg decide_eq_true decide_eq_false List.getElem?_cons_zero
@[simp] theorem int_beq_t (a b : Int) (h : a = b) : (a == b) = true := by simp [h]
@[simp] theorem int_beq_f (a b : Int) (h : a ≠ b) : (a == b) = false := by simp [h]
@[simp] theorem int_bne_t (a b : Int) (h : a ≠ b) : (a != b) = true := by simp [h]
@[simp] theorem int_bne_f (a b : Int) (h : a = b) : (a != b) = false := by simp [h]
@[simp] theorem reps_zero (z : List AV) : reps z 0 = [] := rfl
@[simp] theorem reps_succ (z : List AV) (n : Nat) : reps z (n + 1) = z ++ reps z n := rfl
@[simp] theorem chunks_zero (sz : Nat) (l : List AV) : chunks sz 0 l = [] := rfl
@[simp] theorem chunks_succ (sz n : Nat) (l : List AV) : chunks sz (n + 1) l = l.take sz :: chunks sz n (l.drop sz) := rfl

attribute [simp] AHeap.get_set AHeap.get_push
@[simp] theorem empty_next : AHeap.empty.next = 0 := rfl
@[simp] theorem empty_get (c : Nat) : AHeap.empty.get c = none := rfl
@[simp] theorem AHeap.get_killAll (H : AHeap) (S : List Nat) (c : Nat) : (H.killAll S).get c = if c ∈ S then none else H.get c := rfl
@[simp] theorem next_killAll (H : AHeap) (S : List Nat) : (H.killAll S).next = H.next := rfl

@[simp] theorem tdiv_pos (a b : Int) (h : 0 ≤ a) : a.tdiv b = a / b := Int.tdiv_eq_ediv_of_nonneg h
@[simp] theorem tmod_pos (a b : Int) (h : 0 ≤ a) : a.tmod b = a % b := Int.tmod_eq_emod_of_nonneg h
/-- What is kept of a whole number by a mask. -/
theorem bin_mask (q : QK) (k : Nat) (x : Int) (hk : k < 63) : abinR q .and (.int .i64 x) (.int .i64 ((2 ^ k - 1 : Nat) : Int)) = some (.int .i64 (x % 2 ^ k)) := by
  have h2 : 2 ^ k ≤ 2 ^ 62 := Nat.pow_le_pow_right (by decide) (by omega)
  have h1 : 0 < 2 ^ k := Nat.pos_of_ne_zero (by simp)
  have h0 : (BitVec.ofInt 64 x &&& BitVec.ofInt 64 ((2 ^ k - 1 : Nat) : Int)).toNat = (x % 2 ^ k).toNat := by
    rw [BitVec.toNat_and, BitVec.ofInt_natCast, BitVec.toNat_ofNat, Nat.mod_eq_of_lt (show 2 ^ k - 1 < 2 ^ 64 by omega), Nat.and_two_pow_sub_one_eq_mod, BitVec.toNat_ofInt]
    have hd : ((2 ^ 64 : Nat) : Int) % ((2 ^ k : Nat) : Int) = 0 := by
      rw [show (2 : Nat) ^ 64 = 2 ^ (64 - k) * 2 ^ k from by rw [← Nat.pow_add]; congr 1; omega]
      simp
    have e1 : (x % ((2 ^ 64 : Nat) : Int)) % ((2 ^ k : Nat) : Int) = x % ((2 ^ k : Nat) : Int) := Int.emod_emod_of_dvd _ (Int.dvd_of_emod_eq_zero hd)
    have e2 : 0 ≤ x % ((2 ^ 64 : Nat) : Int) := Int.emod_nonneg _ (by decide)
    have e3 : ((x % ((2 ^ 64 : Nat) : Int)).toNat : Int) = x % ((2 ^ 64 : Nat) : Int) := Int.toNat_of_nonneg e2
    have e4 : 0 ≤ x % ((2 ^ k : Nat) : Int) := Int.emod_nonneg _ (by omega)
    rw [show ((2 : Int) ^ k) = ((2 ^ k : Nat) : Int) from by simp]
    apply Int.ofNat.inj
    show (((x % ((2 ^ 64 : Nat) : Int)).toNat % 2 ^ k : Nat) : Int) = ((x % ((2 ^ k : Nat) : Int)).toNat : Int)
    rw [Int.natCast_emod, e3, e1, Int.toNat_of_nonneg e4]
  have e4 : 0 ≤ x % ((2 ^ k : Nat) : Int) := Int.emod_nonneg _ (by omega)
  have e5 : x % ((2 ^ k : Nat) : Int) < ((2 ^ k : Nat) : Int) := Int.emod_lt_of_pos _ (by omega)
  rw [bin_and, show IntKind.bits .i64 = 64 from rfl, h0, show ((2 : Int) ^ k) = ((2 ^ k : Nat) : Int) from by simp, Int.toNat_of_nonneg e4, IntWalk.i64_in _ (by omega)]
@[simp] theorem tdiv_lit (n k : Nat) : (n : Int).tdiv (OfNat.ofNat k) = ((n / k : Nat) : Int) := rfl
@[simp] theorem tmod_lit (n k : Nat) : (n : Int).tmod (OfNat.ofNat k) = ((n % k : Nat) : Int) := rfl

theorem foldl_setCells : ∀ (cs : List AV) (k off : Nat) (cells : List AV), (cs.zipIdx k).foldl (fun (l : List AV) (p : AV × Nat) => l.set (off + p.2) p.1) cells = setCells cells (off + k) cs
  | [], _, _, _ => rfl
  | c :: cs, k, off, cells => by
    simp only [List.zipIdx_cons, List.foldl_cons, setCells]
    exact foldl_setCells cs (k + 1) off _
@[simp] theorem afill_cons (place : Nat → Option (Nat × Nat)) (cells : List AV) (i : Nat) (v : AV) (rest : List (Nat × AV)) : afill place cells ((i, v) :: rest) =
    (place i).bind fun p => (v.cells?).bind fun cs => if cs.length = p.2 ∧ p.1 + cs.length ≤ cells.length then afill place (setCells cells p.1 cs) rest else none := by
  simp only [afill]
  rcases place i with _ | ⟨o, s⟩
  · rfl
  · cases hc : v.cells? with
    | none => rfl
    | some cs =>
      simp only [Option.bind_some]
      by_cases h : cs.length = s ∧ o + cs.length ≤ cells.length
      · rw [if_pos h, if_neg (by omega), foldl_setCells]; rfl
      · rw [if_neg h, if_pos (by omega)]
@[simp] theorem afill_nil (place : Nat → Option (Nat × Nat)) (cells : List AV) : afill place cells [] = some cells := rfl

/-! Memory -/
@[simp] theorem load_ptr' (r : Option (Option Nat)) (b sz i j : Nat) (H : AHeap) : aloadR r (.ptr b sz i j) H = (H.get b).bind fun blk => if blk.sz = sz then (blk.rows[i]?).bind fun row => readRowR r row j else none := by
  simp only [aloadR]
  cases H.get b with
  | none => rfl
  | some blk => simp only [Option.bind_some]; split <;> first | rfl | (cases blk.rows[i]? <;> rfl)
@[simp] theorem load_rptr' (r : Option (Option Nat)) (sz : Nat) (rows : List (List AV)) (i j : Nat) (H : AHeap) : aloadR r (.rptr sz rows i j) H = (rows[i]?).bind fun row => readRowR r row j := by
  simp only [aloadR]; cases rows[i]? <;> rfl
theorem store_gen (b sz i j n : Nat) (v : AV) (H : AHeap) (cs : List AV) (hc : v.cells? = some cs) : astoreR (some n) (.ptr b sz i j) v H = (H.get b).bind fun blk => if blk.sz = sz ∧ cs.length = n ∧ cs.all AV.isCell = true then
    (blk.rows[i]?).bind fun row => if j + n ≤ sz then some (H.set b (some { e := blk.e, sz := blk.sz, flat := blk.flat && cs.all AV.flat, rows := blk.rows.set i (setCells row j cs) })) else none else none := by
  simp only [astoreR, hc]
  cases H.get b with
  | none => rfl
  | some blk =>
    simp only [Option.bind_some]; split
    · cases blk.rows[i]? <;> rfl
    · rfl
theorem store_cell (b sz i j : Nat) (v : AV) (H : AHeap) (hv : v.isCell = true) : astoreR (some 1) (.ptr b sz i j) v H = (H.get b).bind fun blk => if blk.sz = sz then
    (blk.rows[i]?).bind fun row => if j + 1 ≤ sz then some (H.set b (some { e := blk.e, sz := blk.sz, flat := blk.flat && v.flat, rows := blk.rows.set i (row.set j v) })) else none else none := by
  have hc : v.cells? = some [v] := by cases v <;> first | rfl | (simp [AV.isCell] at hv)
  rw [store_gen _ _ _ _ _ _ _ _ hc]; simp [hv]
@[simp] theorem store_agg (b sz i j n : Nat) (cs : List AV) (H : AHeap) : astoreR (some n) (.ptr b sz i j) (.agg cs) H = (H.get b).bind fun blk => if blk.sz = sz ∧ cs.length = n ∧ cs.all AV.isCell = true then
    (blk.rows[i]?).bind fun row => if j + n ≤ sz then some (H.set b (some { e := blk.e, sz := blk.sz, flat := blk.flat && cs.all AV.flat, rows := blk.rows.set i (setCells row j cs) })) else none else none := store_gen _ _ _ _ _ _ _ _ rfl
@[simp] theorem box_agg (e : TypeId) (cs : List AV) (H : AHeap) : abox e (.agg cs) H = if cs.all AV.isCell = true then some (.ptr H.next cs.length 0 0, H.push { e, sz := cs.length, flat := cs.all AV.flat, rows := [cs] }) else none := rfl
theorem box_cell (e : TypeId) (v : AV) (H : AHeap) (hv : v.isCell = true) : abox e v H = some (.ptr H.next 1 0 0, H.push { e, sz := 1, flat := v.flat, rows := [[v]] }) := by
  have hc : v.cells? = some [v] := by cases v <;> first | rfl | (simp [AV.isCell] at hv)
  simp [abox, hc, hv]
@[simp] theorem stc_int (b sz i j : Nat) (k : IntKind) (n : Int) (H : AHeap) : astoreR (some 1) (.ptr b sz i j) (.int k n) H = (H.get b).bind fun blk => if blk.sz = sz then
    (blk.rows[i]?).bind fun row => if j + 1 ≤ sz then some (H.set b (some { e := blk.e, sz := blk.sz, flat := blk.flat && true, rows := blk.rows.set i (row.set j (.int k n)) })) else none else none := store_cell _ _ _ _ _ _ rfl
@[simp] theorem bxc_int (e : TypeId) (k : IntKind) (n : Int) (H : AHeap) : abox e (.int k n) H = some (.ptr H.next 1 0 0, H.push { e, sz := 1, flat := true, rows := [[(.int k n)]] }) := box_cell _ _ _ rfl
@[simp] theorem stc_bool (b sz i j : Nat) (x : Bool) (H : AHeap) : astoreR (some 1) (.ptr b sz i j) (.bool x) H = (H.get b).bind fun blk => if blk.sz = sz then
    (blk.rows[i]?).bind fun row => if j + 1 ≤ sz then some (H.set b (some { e := blk.e, sz := blk.sz, flat := blk.flat && true, rows := blk.rows.set i (row.set j (.bool x)) })) else none else none := store_cell _ _ _ _ _ _ rfl
@[simp] theorem bxc_bool (e : TypeId) (x : Bool) (H : AHeap) : abox e (.bool x) H = some (.ptr H.next 1 0 0, H.push { e, sz := 1, flat := true, rows := [[(.bool x)]] }) := box_cell _ _ _ rfl
@[simp] theorem stc_str (b sz i j : Nat) (x : ByteArray) (H : AHeap) : astoreR (some 1) (.ptr b sz i j) (.str x) H = (H.get b).bind fun blk => if blk.sz = sz then
    (blk.rows[i]?).bind fun row => if j + 1 ≤ sz then some (H.set b (some { e := blk.e, sz := blk.sz, flat := blk.flat && true, rows := blk.rows.set i (row.set j (.str x)) })) else none else none := store_cell _ _ _ _ _ _ rfl
@[simp] theorem bxc_str (e : TypeId) (x : ByteArray) (H : AHeap) : abox e (.str x) H = some (.ptr H.next 1 0 0, H.push { e, sz := 1, flat := true, rows := [[(.str x)]] }) := box_cell _ _ _ rfl
@[simp] theorem stc_nils (b sz i j : Nat)  (H : AHeap) : astoreR (some 1) (.ptr b sz i j) .nils H = (H.get b).bind fun blk => if blk.sz = sz then
    (blk.rows[i]?).bind fun row => if j + 1 ≤ sz then some (H.set b (some { e := blk.e, sz := blk.sz, flat := blk.flat && true, rows := blk.rows.set i (row.set j .nils) })) else none else none := store_cell _ _ _ _ _ _ rfl
@[simp] theorem bxc_nils (e : TypeId)  (H : AHeap) : abox e .nils H = some (.ptr H.next 1 0 0, H.push { e, sz := 1, flat := true, rows := [[.nils]] }) := box_cell _ _ _ rfl
@[simp] theorem stc_nilp (b sz i j : Nat)  (H : AHeap) : astoreR (some 1) (.ptr b sz i j) .nilp H = (H.get b).bind fun blk => if blk.sz = sz then
    (blk.rows[i]?).bind fun row => if j + 1 ≤ sz then some (H.set b (some { e := blk.e, sz := blk.sz, flat := blk.flat && true, rows := blk.rows.set i (row.set j .nilp) })) else none else none := store_cell _ _ _ _ _ _ rfl
@[simp] theorem bxc_nilp (e : TypeId)  (H : AHeap) : abox e .nilp H = some (.ptr H.next 1 0 0, H.push { e, sz := 1, flat := true, rows := [[.nilp]] }) := box_cell _ _ _ rfl
@[simp] theorem stc_sl (b sz i j : Nat) (b' s' o' l' : Nat) (H : AHeap) : astoreR (some 1) (.ptr b sz i j) (.sl b' s' o' l') H = (H.get b).bind fun blk => if blk.sz = sz then
    (blk.rows[i]?).bind fun row => if j + 1 ≤ sz then some (H.set b (some { e := blk.e, sz := blk.sz, flat := blk.flat && false, rows := blk.rows.set i (row.set j (.sl b' s' o' l')) })) else none else none := store_cell _ _ _ _ _ _ rfl
@[simp] theorem bxc_sl (e : TypeId) (b' s' o' l' : Nat) (H : AHeap) : abox e (.sl b' s' o' l') H = some (.ptr H.next 1 0 0, H.push { e, sz := 1, flat := false, rows := [[(.sl b' s' o' l')]] }) := box_cell _ _ _ rfl
@[simp] theorem stc_rsl (b sz i j : Nat) (s' : Nat) (x : List (List AV)) (H : AHeap) : astoreR (some 1) (.ptr b sz i j) (.rsl s' x) H = (H.get b).bind fun blk => if blk.sz = sz then
    (blk.rows[i]?).bind fun row => if j + 1 ≤ sz then some (H.set b (some { e := blk.e, sz := blk.sz, flat := blk.flat && true, rows := blk.rows.set i (row.set j (.rsl s' x)) })) else none else none := store_cell _ _ _ _ _ _ rfl
@[simp] theorem bxc_rsl (e : TypeId) (s' : Nat) (x : List (List AV)) (H : AHeap) : abox e (.rsl s' x) H = some (.ptr H.next 1 0 0, H.push { e, sz := 1, flat := true, rows := [[(.rsl s' x)]] }) := box_cell _ _ _ rfl
@[simp] theorem stc_esl (b sz i j : Nat) (s' : Nat) (H : AHeap) : astoreR (some 1) (.ptr b sz i j) (.esl s') H = (H.get b).bind fun blk => if blk.sz = sz then
    (blk.rows[i]?).bind fun row => if j + 1 ≤ sz then some (H.set b (some { e := blk.e, sz := blk.sz, flat := blk.flat && true, rows := blk.rows.set i (row.set j (.esl s')) })) else none else none := store_cell _ _ _ _ _ _ rfl
@[simp] theorem bxc_esl (e : TypeId) (s' : Nat) (H : AHeap) : abox e (.esl s') H = some (.ptr H.next 1 0 0, H.push { e, sz := 1, flat := true, rows := [[(.esl s')]] }) := box_cell _ _ _ rfl
@[simp] theorem stc_ptr (b sz i j : Nat) (b' s' i' j' : Nat) (H : AHeap) : astoreR (some 1) (.ptr b sz i j) (.ptr b' s' i' j') H = (H.get b).bind fun blk => if blk.sz = sz then
    (blk.rows[i]?).bind fun row => if j + 1 ≤ sz then some (H.set b (some { e := blk.e, sz := blk.sz, flat := blk.flat && false, rows := blk.rows.set i (row.set j (.ptr b' s' i' j')) })) else none else none := store_cell _ _ _ _ _ _ rfl
@[simp] theorem bxc_ptr (e : TypeId) (b' s' i' j' : Nat) (H : AHeap) : abox e (.ptr b' s' i' j') H = some (.ptr H.next 1 0 0, H.push { e, sz := 1, flat := false, rows := [[(.ptr b' s' i' j')]] }) := box_cell _ _ _ rfl
@[simp] theorem stc_W8 (b sz i j : Nat) (x : BitVec 8) (H : AHeap) : astoreR (some 1) (.ptr b sz i j) (W8 x) H = (H.get b).bind fun blk => if blk.sz = sz then
    (blk.rows[i]?).bind fun row => if j + 1 ≤ sz then some (H.set b (some { e := blk.e, sz := blk.sz, flat := blk.flat && true, rows := blk.rows.set i (row.set j (W8 x)) })) else none else none := store_cell _ _ _ _ _ _ rfl
@[simp] theorem bxc_W8 (e : TypeId) (x : BitVec 8) (H : AHeap) : abox e (W8 x) H = some (.ptr H.next 1 0 0, H.push { e, sz := 1, flat := true, rows := [[(W8 x)]] }) := box_cell _ _ _ rfl
@[simp] theorem stc_W16 (b sz i j : Nat) (x : BitVec 16) (H : AHeap) : astoreR (some 1) (.ptr b sz i j) (W16 x) H = (H.get b).bind fun blk => if blk.sz = sz then
    (blk.rows[i]?).bind fun row => if j + 1 ≤ sz then some (H.set b (some { e := blk.e, sz := blk.sz, flat := blk.flat && true, rows := blk.rows.set i (row.set j (W16 x)) })) else none else none := store_cell _ _ _ _ _ _ rfl
@[simp] theorem bxc_W16 (e : TypeId) (x : BitVec 16) (H : AHeap) : abox e (W16 x) H = some (.ptr H.next 1 0 0, H.push { e, sz := 1, flat := true, rows := [[(W16 x)]] }) := box_cell _ _ _ rfl
@[simp] theorem stc_W32 (b sz i j : Nat) (x : BitVec 32) (H : AHeap) : astoreR (some 1) (.ptr b sz i j) (W32 x) H = (H.get b).bind fun blk => if blk.sz = sz then
    (blk.rows[i]?).bind fun row => if j + 1 ≤ sz then some (H.set b (some { e := blk.e, sz := blk.sz, flat := blk.flat && true, rows := blk.rows.set i (row.set j (W32 x)) })) else none else none := store_cell _ _ _ _ _ _ rfl
@[simp] theorem bxc_W32 (e : TypeId) (x : BitVec 32) (H : AHeap) : abox e (W32 x) H = some (.ptr H.next 1 0 0, H.push { e, sz := 1, flat := true, rows := [[(W32 x)]] }) := box_cell _ _ _ rfl
@[simp] theorem stc_W64 (b sz i j : Nat) (x : BitVec 64) (H : AHeap) : astoreR (some 1) (.ptr b sz i j) (W64 x) H = (H.get b).bind fun blk => if blk.sz = sz then
    (blk.rows[i]?).bind fun row => if j + 1 ≤ sz then some (H.set b (some { e := blk.e, sz := blk.sz, flat := blk.flat && true, rows := blk.rows.set i (row.set j (W64 x)) })) else none else none := store_cell _ _ _ _ _ _ rfl
@[simp] theorem bxc_W64 (e : TypeId) (x : BitVec 64) (H : AHeap) : abox e (W64 x) H = some (.ptr H.next 1 0 0, H.push { e, sz := 1, flat := true, rows := [[(W64 x)]] }) := box_cell _ _ _ rfl
@[simp] theorem stc_clo (b sz i j : Nat) (f : FuncId) (fs cs : List AV) (H : AHeap) : astoreR (some 1) (.ptr b sz i j) (.clo f fs cs) H = (H.get b).bind fun blk => if blk.sz = sz then
    (blk.rows[i]?).bind fun row => if j + 1 ≤ sz then some (H.set b (some { e := blk.e, sz := blk.sz, flat := blk.flat && false, rows := blk.rows.set i (row.set j (.clo f fs cs)) })) else none else none := store_cell _ _ _ _ _ _ rfl
@[simp] theorem bxc_clo (e : TypeId) (f : FuncId) (fs cs : List AV) (H : AHeap) : abox e (.clo f fs cs) H = some (.ptr H.next 1 0 0, H.push { e, sz := 1, flat := false, rows := [[(.clo f fs cs)]] }) := box_cell _ _ _ rfl
@[simp] theorem alloc_some (e : TypeId) (z : AV) (H : AHeap) : aallocR e (some z) H = abox e z H := rfl
@[simp] theorem make_eq (k : EK) (k1 k2 : IntKind) (n q : Int) (H : AHeap) : amakeR (some k) (.int k1 n) (.int k2 q) H =
    if 0 ≤ n ∧ n ≤ q ∧ (k.bytes : Int) * q ≤ 140737488355328 ∧ 0 < k.bytes ∧ k.zero.all AV.isCell = true then
      some (.sl H.next k.size 0 n.toNat, H.push { e := k.e, sz := k.size, flat := k.zero.all AV.flat, rows := List.replicate n.toNat k.zero }) else none := rfl
@[simp] theorem rows_nils (sz : Nat) (H : AHeap) : rowsOf .nils sz H = some ([], true) := rfl
@[simp] theorem rows_esl (s sz : Nat) (H : AHeap) : rowsOf (.esl s) sz H = some ([], true) := rfl
@[simp] theorem rows_rsl (s sz : Nat) (rows : List (List AV)) (H : AHeap) : rowsOf (.rsl s rows) sz H = if s = sz then some (rows, true) else none := rfl
@[simp] theorem rows_sl (b s off len sz : Nat) (H : AHeap) : rowsOf (.sl b s off len) sz H = (H.get b).bind fun blk => if s = sz ∧ blk.sz = sz ∧ off + len ≤ blk.rows.length then some ((blk.rows.drop off).take len, blk.flat) else none := by
  simp only [rowsOf]; cases H.get b <;> rfl
@[simp] theorem append_nils (k : EK) (x : AV) (H : AHeap) : aappendR (some k) .nils x H = (rowsOf x k.size H).bind fun p => if 0 < k.bytes then
    if p.1.length * k.bytes ≤ 140737488355328 then (if p.1 = [] then some (.nils, { next := H.next + 1, get := H.get }) else some (.sl H.next k.size 0 p.1.length, H.push { e := k.e, sz := k.size, flat := p.2, rows := p.1 })) else none else none := by
  simp only [aappendR]; cases rowsOf x k.size H <;> rfl
@[simp] theorem append_sl (k : EK) (b sz len : Nat) (x : AV) (H : AHeap) : aappendR (some k) (.sl b sz 0 len) x H = (rowsOf x k.size H).bind fun p => if 0 < k.bytes then
    (H.get b).bind fun blk => if sz = k.size ∧ blk.sz = sz ∧ blk.e = k.e ∧ blk.rows.length = len ∧ (len + p.1.length) * k.bytes ≤ 140737488355328 then
      some (.sl H.next sz 0 (len + p.1.length), (H.set b none).push { e := k.e, sz, flat := blk.flat && p.2, rows := blk.rows ++ p.1 }) else none else none := by
  simp only [aappendR]
  cases rowsOf x k.size H with
  | none => rfl
  | some p => simp only [Option.bind_some]; split <;> first | rfl | (cases H.get b <;> rfl)
@[simp] theorem bslice_eq (k : EK) (len : Nat) (parts : List (Nat × AV)) (H : AHeap) : abuildSliceR (some k) len parts H =
    if len * k.size ≤ 16777216 then (afill (fun q => some (q * k.size, k.size)) (reps k.zero len) parts).bind fun cs => if cs.all AV.isCell = true then some (.sl H.next k.size 0 len, H.push { e := k.e, sz := k.size, flat := cs.all AV.flat, rows := chunks k.size len cs }) else none else none := by
  simp only [abuildSliceR]; split <;> first | rfl | (cases afill (fun q => some (q * k.size, k.size)) (reps k.zero len) parts <;> rfl)

@[simp] theorem build_str (z : List AV) (pl : List (Nat × Nat)) (parts : List (Nat × AV)) : abuildR (.str z pl) parts = (afill (fun i => pl[i]?) z parts).map .agg := by
  rfl
@[simp] theorem build_arr (z : List AV) (n : Nat) (parts : List (Nat × AV)) : abuildR (.arr z n) parts = (afill (fun i => some (i * n, n)) z parts).map .agg := by
  rfl

/-! Slices -/
@[simp] theorem index_rsl' (n sz : Nat) (rows : List (List AV)) (k : IntKind) (i : Int) : aindexAddrR (.sl n) (.rsl sz rows) (.int k i) = if n = sz then (if 0 ≤ i ∧ i < rows.length then some (.rptr sz rows i.toNat 0) else none) else none := rfl
@[simp] theorem index_sl' (n b sz off len : Nat) (k : IntKind) (i : Int) : aindexAddrR (.sl n) (.sl b sz off len) (.int k i) = if n = sz then (if 0 ≤ i ∧ i < len then some (.ptr b sz (off + i.toNat) 0) else none) else none := rfl
@[simp] theorem index_arr' (len n b sz r j : Nat) (k : IntKind) (i : Int) : aindexAddrR (.arr len n) (.ptr b sz r j) (.int k i) = if 0 ≤ i ∧ i < len then some (.ptr b sz r (j + i.toNat * n)) else none := rfl
@[simp] theorem index_arrr' (len n sz r j : Nat) (rows : List (List AV)) (k : IntKind) (i : Int) : aindexAddrR (.arr len n) (.rptr sz rows r j) (.int k i) = if 0 ≤ i ∧ i < len then some (.rptr sz rows r (j + i.toNat * n)) else none := rfl
@[simp] theorem index_agg (len n : Nat) (r : Option (Option Nat)) (cs : List AV) (k : IntKind) (i : Int) : aindexR (.arr len n r) (.agg cs) (.int k i) = if 0 ≤ i ∧ i < len then apartR r cs (i.toNat * n) else none := rfl
@[simp] theorem index_rsl_W8 (n sz : Nat) (rows : List (List AV)) (i : BitVec 8) : aindexAddrR (.sl n) (.rsl sz rows) (W8 i) = if n = sz then (if i.toNat < rows.length then some (.rptr sz rows i.toNat 0) else none) else none := by
  unfold W8; rw [index_rsl']; simp
@[simp] theorem index_sl_W8 (n b sz off len : Nat) (i : BitVec 8) : aindexAddrR (.sl n) (.sl b sz off len) (W8 i) = if n = sz then (if i.toNat < len then some (.ptr b sz (off + i.toNat) 0) else none) else none := by
  unfold W8; rw [index_sl']; simp
@[simp] theorem index_arr_W8 (len n : Nat) (r : Option (Option Nat)) (cs : List AV) (i : BitVec 8) : aindexR (.arr len n r) (.agg cs) (W8 i) = if i.toNat < len then apartR r cs (i.toNat * n) else none := by
  unfold W8; rw [index_agg]; simp
@[simp] theorem index_rsl_W16 (n sz : Nat) (rows : List (List AV)) (i : BitVec 16) : aindexAddrR (.sl n) (.rsl sz rows) (W16 i) = if n = sz then (if i.toNat < rows.length then some (.rptr sz rows i.toNat 0) else none) else none := by
  unfold W16; rw [index_rsl']; simp
@[simp] theorem index_sl_W16 (n b sz off len : Nat) (i : BitVec 16) : aindexAddrR (.sl n) (.sl b sz off len) (W16 i) = if n = sz then (if i.toNat < len then some (.ptr b sz (off + i.toNat) 0) else none) else none := by
  unfold W16; rw [index_sl']; simp
@[simp] theorem index_arr_W16 (len n : Nat) (r : Option (Option Nat)) (cs : List AV) (i : BitVec 16) : aindexR (.arr len n r) (.agg cs) (W16 i) = if i.toNat < len then apartR r cs (i.toNat * n) else none := by
  unfold W16; rw [index_agg]; simp
@[simp] theorem index_rsl_W32 (n sz : Nat) (rows : List (List AV)) (i : BitVec 32) : aindexAddrR (.sl n) (.rsl sz rows) (W32 i) = if n = sz then (if i.toNat < rows.length then some (.rptr sz rows i.toNat 0) else none) else none := by
  unfold W32; rw [index_rsl']; simp
@[simp] theorem index_sl_W32 (n b sz off len : Nat) (i : BitVec 32) : aindexAddrR (.sl n) (.sl b sz off len) (W32 i) = if n = sz then (if i.toNat < len then some (.ptr b sz (off + i.toNat) 0) else none) else none := by
  unfold W32; rw [index_sl']; simp
@[simp] theorem index_arr_W32 (len n : Nat) (r : Option (Option Nat)) (cs : List AV) (i : BitVec 32) : aindexR (.arr len n r) (.agg cs) (W32 i) = if i.toNat < len then apartR r cs (i.toNat * n) else none := by
  unfold W32; rw [index_agg]; simp
@[simp] theorem index_rsl_W64 (n sz : Nat) (rows : List (List AV)) (i : BitVec 64) : aindexAddrR (.sl n) (.rsl sz rows) (W64 i) = if n = sz then (if i.toNat < rows.length then some (.rptr sz rows i.toNat 0) else none) else none := by
  unfold W64; rw [index_rsl']; simp
@[simp] theorem index_sl_W64 (n b sz off len : Nat) (i : BitVec 64) : aindexAddrR (.sl n) (.sl b sz off len) (W64 i) = if n = sz then (if i.toNat < len then some (.ptr b sz (off + i.toNat) 0) else none) else none := by
  unfold W64; rw [index_sl']; simp
@[simp] theorem index_arr_W64 (len n : Nat) (r : Option (Option Nat)) (cs : List AV) (i : BitVec 64) : aindexR (.arr len n r) (.agg cs) (W64 i) = if i.toNat < len then apartR r cs (i.toNat * n) else none := by
  unfold W64; rw [index_agg]; simp
@[simp] theorem part_cell (cs : List AV) (o : Nat) : apartR (some none) cs o = cs[o]? := rfl
@[simp] theorem part_agg (n : Nat) (cs : List AV) (o : Nat) : apartR (some (some n)) cs o = some (.agg ((cs.drop o).take n)) := rfl
@[simp] theorem field_agg (o : Nat) (r : Option (Option Nat)) (cs : List AV) : afieldR (some (o, r)) (.agg cs) = apartR r cs o := rfl
@[simp] theorem len_esl (s : Nat) : alenR .sl (.esl s) = some (.int .i64 0) := rfl
@[simp] theorem len_str (s : ByteArray) : alenR .str (.str s) = some (.int .i64 s.size) := rfl
@[simp] theorem len_arr (n : Nat) (x : AV) : alenR (.arr n) x = some (.int .i64 n) := by cases x <;> rfl
@[simp] theorem slice_none (n sz : Nat) (rows : List (List AV)) (k : IntKind) (h : Int) : asliceR (.sl n) (.rsl sz rows) none (some (.int k h)) none = if 0 ≤ h ∧ h ≤ rows.length then (if n = sz then some (.rsl sz (rows.take h.toNat)) else none) else none := by
  simp only [asliceR, abound]
  by_cases hh : 0 ≤ h ∧ h ≤ rows.length <;> simp [hh]
@[simp] theorem slice_from (n sz : Nat) (rows : List (List AV)) (k : IntKind) (l : Int) : asliceR (.sl n) (.rsl sz rows) (some (.int k l)) none none = if 0 ≤ l ∧ l ≤ rows.length then (if n = sz then some (.rsl sz (rows.drop l.toNat)) else none) else none := by
  simp only [asliceR, abound]
  by_cases hh : 0 ≤ l ∧ l ≤ rows.length <;> simp [hh]
@[simp] theorem slice_both (n sz : Nat) (rows : List (List AV)) (k k' : IntKind) (l h : Int) : asliceR (.sl n) (.rsl sz rows) (some (.int k l)) (some (.int k' h)) none = if 0 ≤ h ∧ h ≤ rows.length then (if 0 ≤ l ∧ l ≤ h.toNat then (if n = sz then some (.rsl sz ((rows.take h.toNat).drop l.toNat)) else none) else none) else none := by
  simp only [asliceR, abound]
  by_cases hh : 0 ≤ h ∧ h ≤ rows.length
  · simp only [hh, and_self, if_true]
    by_cases hl : 0 ≤ l ∧ l ≤ (h.toNat : Int)
    · rw [if_pos hl, if_pos hl]
    · rw [if_neg hl, if_neg hl]
  · rw [if_neg hh, if_neg hh]
@[simp] theorem slice_sl_none (n b sz off len : Nat) (k : IntKind) (h : Int) : asliceR (.sl n) (.sl b sz off len) none (some (.int k h)) none = if 0 ≤ h ∧ h ≤ len then (if n = sz then some (.sl b sz off h.toNat) else none) else none := by
  simp only [asliceR, abound]
  by_cases hh : 0 ≤ h ∧ h ≤ len <;> simp [hh]
@[simp] theorem slice_sl_from (n b sz off len : Nat) (k : IntKind) (l : Int) : asliceR (.sl n) (.sl b sz off len) (some (.int k l)) none none = if 0 ≤ l ∧ l ≤ len then (if n = sz then (if l.toNat = 0 then some (.sl b sz off len) else if l.toNat < len then some (.sl b sz (off + l.toNat) (len - l.toNat)) else some (.rsl sz [])) else none) else none := by
  simp only [asliceR, abound]
  by_cases hh : 0 ≤ l ∧ l ≤ len <;> simp [hh]
@[simp] theorem bin_sl_nils (o : BinOp) (b sz off len : Nat) : abinR .s o (.sl b sz off len) .nils = eqRes o false := rfl
@[simp] theorem bin_esl_nils (o : BinOp) (s : Nat) : abinR .s o (.esl s) .nils = eqRes o false := rfl
@[simp] theorem bin_rsl_nils (o : BinOp) (s : Nat) (r : List AV) (rs : List (List AV)) : abinR .s o (.rsl s (r :: rs)) .nils = eqRes o false := rfl
@[simp] theorem bin_nils_nils (o : BinOp) : abinR .s o .nils .nils = eqRes o true := rfl
@[simp] theorem bin_quo' (q : QK) (k : IntKind) (a b : Int) : abinR q .quo (.int k a) (.int k b) = if b = 0 then none else some (.int k (k.wrap (a.tdiv b))) := by simp [abinR, isShift, aarith]
@[simp] theorem bin_rem' (q : QK) (k : IntKind) (a b : Int) : abinR q .rem (.int k a) (.int k b) = if b = 0 then none else some (.int k (a.tmod b)) := by simp [abinR, isShift, aarith]
@[simp] theorem bin_str (o : BinOp) (a b : ByteArray) : abinR .t o (.str a) (.str b) = eqRes o (a == b) := rfl
@[simp] theorem bin_agg (o : BinOp) (l : List CK) (cs ds : List AV) : abinR (.c l) o (.agg cs) (.agg ds) = (ceqs l cs ds).bind fun r => eqRes o r := by
  simp only [abinR]; cases ceqs l cs ds <;> rfl
@[simp] theorem bin_ptr_nil (o : BinOp) (b sz i j : Nat) : abinR .p o (.ptr b sz i j) .nilp = eqRes o false := rfl
@[simp] theorem bin_nil_nil (o : BinOp) : abinR .p o .nilp .nilp = eqRes o true := rfl
@[simp] theorem ceqs_nil : ceqs [] [] [] = some true := rfl
@[simp] theorem ceqs_cons (k : CK) (ks : List CK) (a b : AV) (as bs : List AV) : ceqs (k :: ks) (a :: as) (b :: bs) = (ceq k a b).bind fun x => (ceqs ks as bs).map fun y => x && y := by
  simp only [ceqs]; cases ceq k a b <;> first | rfl | (cases ceqs ks as bs <;> rfl)
@[simp] theorem ceq_int (k : IntKind) (a b : Int) : ceq .i (.int k a) (.int k b) = some (a == b) := by simp [ceq]
@[simp] theorem ceq_bool (a b : Bool) : ceq .b (.bool a) (.bool b) = some (a == b) := rfl
@[simp] theorem ceq_str (a b : ByteArray) : ceq .t (.str a) (.str b) = some (a == b) := rfl
@[simp] theorem neg_int (n : Int) : aun .neg (.int .i64 n) = some (.int .i64 (IntKind.i64.wrap (0 - n))) := rfl
@[simp] theorem conv_i64 (k' : IntKind) (n : Int) : aconvR (some .i64) (.int k' n) = some (.int .i64 (IntKind.i64.wrap n)) := rfl
@[simp] theorem min_int (k k' : IntKind) (a b : Int) : amin (.int k a) (.int k' b) = some (.int k (min a b)) := by
  simp only [amin]; congr 2; omega
@[simp] theorem max_int (k k' : IntKind) (a b : Int) : amax (.int k a) (.int k' b) = some (.int k (max a b)) := by
  simp only [amax]; congr 2; omega

@[simp] theorem index_str (s : ByteArray) (k : IntKind) (i : Int) : aindexR .str (.str s) (.int k i) = if 0 ≤ i then (s[i.toNat]?).map (fun b => W8 b.toBitVec) else none := by
  simp only [aindexR]
  split
  · cases s[i.toNat]? <;> rfl
  · rfl

/-! Handing over -/
@[simp] theorem frzCell_int (H : AHeap) (n : Option Nat) (k : IntKind) (x : Int) : frzCell H n (.int k x) = some (.int k x, []) := rfl
@[simp] theorem frzCell_bool (H : AHeap) (n : Option Nat) (x : Bool) : frzCell H n (.bool x) = some (.bool x, []) := rfl
@[simp] theorem frzCell_str (H : AHeap) (n : Option Nat) (x : ByteArray) : frzCell H n (.str x) = some (.str x, []) := rfl
@[simp] theorem frzCell_rsl (H : AHeap) (n : Option Nat) (s : Nat) (x : List (List AV)) : frzCell H n (.rsl s x) = some (.rsl s x, []) := rfl
@[simp] theorem frzCell_esl (H : AHeap) (n : Option Nat) (s : Nat) : frzCell H n (.esl s) = some (.rsl s [], []) := rfl
@[simp] theorem frzCell_nils (H : AHeap) (k : Nat) : frzCell H (some k) .nils = some (.rsl k [], []) := rfl
@[simp] theorem frzCell_W8 (H : AHeap) (n : Option Nat) (x : BitVec 8) : frzCell H n (W8 x) = some (W8 x, []) := rfl
@[simp] theorem frzCell_W16 (H : AHeap) (n : Option Nat) (x : BitVec 16) : frzCell H n (W16 x) = some (W16 x, []) := rfl
@[simp] theorem frzCell_W32 (H : AHeap) (n : Option Nat) (x : BitVec 32) : frzCell H n (W32 x) = some (W32 x, []) := rfl
@[simp] theorem frzCell_W64 (H : AHeap) (n : Option Nat) (x : BitVec 64) : frzCell H n (W64 x) = some (W64 x, []) := rfl
@[simp] theorem frzCell_sl (H : AHeap) (n : Option Nat) (b sz off len : Nat) : frzCell H n (.sl b sz off len) = (H.get b).bind fun blk => if blk.flat = true ∧ blk.sz = sz ∧ off + len ≤ blk.rows.length then some (.rsl sz ((blk.rows.drop off).take len), [b]) else none := by
  simp only [frzCell]; cases H.get b <;> rfl
@[simp] theorem frz_agg (H : AHeap) (l : List (Option Nat)) (cs : List AV) : frz H l (.agg cs) = (frzCells H l cs).map fun p => (.agg p.1, p.2) := by
  simp only [frz]; cases frzCells H l cs <;> rfl
theorem frz_cell (H : AHeap) (l : List (Option Nat)) (a : AV) (h : ∀ cs, a ≠ .agg cs) : frz H l a = frzCell H (l.headD none) a := by
  cases a <;> first | rfl | exact (h _ rfl).elim
@[simp] theorem frz_int (H : AHeap) (l : List (Option Nat)) (k : IntKind) (x : Int) : frz H l (.int k x) = some (.int k x, []) := rfl
@[simp] theorem frz_bool (H : AHeap) (l : List (Option Nat)) (x : Bool) : frz H l (.bool x) = some (.bool x, []) := rfl
@[simp] theorem frz_str (H : AHeap) (l : List (Option Nat)) (x : ByteArray) : frz H l (.str x) = some (.str x, []) := rfl
@[simp] theorem frz_rsl (H : AHeap) (l : List (Option Nat)) (s : Nat) (x : List (List AV)) : frz H l (.rsl s x) = some (.rsl s x, []) := rfl
@[simp] theorem frz_esl (H : AHeap) (l : List (Option Nat)) (s : Nat) : frz H l (.esl s) = some (.rsl s [], []) := rfl
@[simp] theorem frz_nils (H : AHeap) (k : Nat) (l : List (Option Nat)) : frz H (some k :: l) .nils = some (.rsl k [], []) := rfl
@[simp] theorem frz_W8 (H : AHeap) (l : List (Option Nat)) (x : BitVec 8) : frz H l (W8 x) = some (W8 x, []) := rfl
@[simp] theorem frz_W16 (H : AHeap) (l : List (Option Nat)) (x : BitVec 16) : frz H l (W16 x) = some (W16 x, []) := rfl
@[simp] theorem frz_W32 (H : AHeap) (l : List (Option Nat)) (x : BitVec 32) : frz H l (W32 x) = some (W32 x, []) := rfl
@[simp] theorem frz_W64 (H : AHeap) (l : List (Option Nat)) (x : BitVec 64) : frz H l (W64 x) = some (W64 x, []) := rfl
@[simp] theorem frz_sl (H : AHeap) (l : List (Option Nat)) (b sz off len : Nat) : frz H l (.sl b sz off len) = (H.get b).bind fun blk => if blk.flat = true ∧ blk.sz = sz ∧ off + len ≤ blk.rows.length then some (.rsl sz ((blk.rows.drop off).take len), [b]) else none := frzCell_sl _ (l.headD none) _ _ _ _
@[simp] theorem frzCells_nil (H : AHeap) : frzCells H [] [] = some ([], []) := rfl
@[simp] theorem frzCells_cons (H : AHeap) (n : Option Nat) (l : List (Option Nat)) (a : AV) (cs : List AV) : frzCells H (n :: l) (a :: cs) = (frzCell H n a).bind fun p => (frzCells H l cs).map fun q => (p.1 :: q.1, p.2 ++ q.2) := by
  simp only [frzCells]
  rcases frzCell H n a with _ | ⟨a', S⟩ <;> first | rfl | (rcases frzCells H l cs with _ | ⟨b, T⟩ <;> rfl)
@[simp] theorem frzArgs_nil (H : AHeap) : frzArgs H [] [] = some ([], []) := rfl
@[simp] theorem frzArgs_cons (H : AHeap) (n : List (Option Nat)) (l : List (List (Option Nat))) (a : AV) (cs : List AV) : frzArgs H (n :: l) (a :: cs) = (frz H n a).bind fun p => (frzArgs H l cs).map fun q => (p.1 :: q.1, p.2 ++ q.2) := by
  simp only [frzArgs]
  rcases frz H n a with _ | ⟨a', S⟩ <;> first | rfl | (rcases frzArgs H l cs with _ | ⟨b, T⟩ <;> rfl)
@[simp] theorem frzMask_true (H : AHeap) (ms : List Bool) (n : List (Option Nat)) (l : List (List (Option Nat))) (a : AV) (cs : List AV) :
    frzMask H (true :: ms) (n :: l) (a :: cs) = (frz H n a).bind fun p => (frzMask H ms l cs).map fun q => (p.1 :: q.1, p.2 ++ q.2) := by
  simp only [frzMask]
  rcases frz H n a with _ | ⟨a', S⟩ <;> first | rfl | (rcases frzMask H ms l cs with _ | ⟨b, T⟩ <;> rfl)
@[congr] theorem callP_congr {keep : Bool} {spec : SpecP} {l : List (List (Option Nat))} {args args' : List AV} {H H' : AHeap} (h : args = args') (hh : H = H') : callP keep spec l args H = callP keep spec l args' H' := by rw [h, hh]
@[simp] theorem callP_eq (keep : Bool) (spec : SpecP) (l : List (List (Option Nat))) (args : List AV) (H : AHeap) : callP keep spec l args H = (frzArgs H l args).bind fun p => (spec p.1).bind fun r => if r.closed = true then (if p.2 = [] ∨ r.noSl = true ∨ keep = true then some (r, H) else some (r, H.killAll p.2)) else none := by
  simp only [callP]
  rcases frzArgs H l args with _ | ⟨a', S⟩ <;> first | rfl | (simp only [Option.bind_some]; cases spec a' <;> rfl)
@[simp] theorem callM_eq (ms : List Bool) (spec : SpecM) (l : List (List (Option Nat))) (args : List AV) (H : AHeap) : callM ms spec l args H = (frzMask H ms l args).bind fun p => spec p.1 (if p.2 = [] then H else H.killAll p.2) := by
  simp only [callM]; cases frzMask H ms l args <;> rfl
@[simp] theorem closed_agg (cs : List AV) : (AV.agg cs).closed = cs.all AV.flat := rfl
def AV.clF (v : AV) : Bool := match v with | .agg cs => cs.all AV.flat | v => v.flat
@[simp] theorem clF_agg (cs : List AV) : (AV.agg cs).clF = cs.all AV.flat := rfl
@[simp] theorem clF_int (k : IntKind) (x : Int) : (AV.int k x).clF = true := rfl
@[simp] theorem clF_bool (x : Bool) : (AV.bool x).clF = true := rfl
@[simp] theorem clF_str (x : ByteArray) : (AV.str x).clF = true := rfl
@[simp] theorem clF_W8 (x : BitVec 8) : (W8 x).clF = true := rfl
@[simp] theorem clF_W16 (x : BitVec 16) : (W16 x).clF = true := rfl
@[simp] theorem clF_W32 (x : BitVec 32) : (W32 x).clF = true := rfl
@[simp] theorem clF_W64 (x : BitVec 64) : (W64 x).clF = true := rfl
@[simp] theorem clF_rsl (s : Nat) (x : List (List AV)) : (AV.rsl s x).clF = true := rfl
@[simp] theorem closed_tup (vs : List AV) : (AV.tup vs).closed = vs.all AV.clF := rfl
@[simp] theorem closed_int (k : IntKind) (x : Int) : (AV.int k x).closed = true := rfl
@[simp] theorem closed_bool (x : Bool) : (AV.bool x).closed = true := rfl
@[simp] theorem closed_str (x : ByteArray) : (AV.str x).closed = true := rfl
@[simp] theorem closed_rsl (s : Nat) (x : List (List AV)) : (AV.rsl s x).closed = true := rfl
@[simp] theorem closed_W8 (x : BitVec 8) : (W8 x).closed = true := rfl
@[simp] theorem closed_W16 (x : BitVec 16) : (W16 x).closed = true := rfl
@[simp] theorem closed_W32 (x : BitVec 32) : (W32 x).closed = true := rfl
@[simp] theorem closed_W64 (x : BitVec 64) : (W64 x).closed = true := rfl
@[simp] theorem flat_str (x : ByteArray) : (AV.str x).flat = true := rfl
@[simp] theorem cells_str (x : ByteArray) : (AV.str x).cells? = some [.str x] := rfl
@[simp] theorem isCell_str (x : ByteArray) : (AV.str x).isCell = true := rfl
@[simp] theorem noSl_agg (cs : List AV) : (AV.agg cs).noSl = cs.all AV.noSlC := rfl
def AV.nsF (v : AV) : Bool := match v with | .agg cs => cs.all AV.noSlC | v => v.noSlC
@[simp] theorem nsF_agg (cs : List AV) : (AV.agg cs).nsF = cs.all AV.noSlC := rfl
@[simp] theorem nsF_int (k : IntKind) (x : Int) : (AV.int k x).nsF = true := rfl
@[simp] theorem nsF_bool (x : Bool) : (AV.bool x).nsF = true := rfl
@[simp] theorem nsF_str (x : ByteArray) : (AV.str x).nsF = true := rfl
@[simp] theorem nsF_W8 (x : BitVec 8) : (W8 x).nsF = true := rfl
@[simp] theorem nsF_W16 (x : BitVec 16) : (W16 x).nsF = true := rfl
@[simp] theorem nsF_W32 (x : BitVec 32) : (W32 x).nsF = true := rfl
@[simp] theorem nsF_W64 (x : BitVec 64) : (W64 x).nsF = true := rfl
@[simp] theorem nsF_rsl (s : Nat) (x : List (List AV)) : (AV.rsl s x).nsF = false := rfl
@[simp] theorem noSl_tup (vs : List AV) : (AV.tup vs).noSl = vs.all AV.nsF := rfl
@[simp] theorem noSl_int (k : IntKind) (x : Int) : (AV.int k x).noSl = true := rfl
@[simp] theorem noSl_bool (x : Bool) : (AV.bool x).noSl = true := rfl
@[simp] theorem noSl_str (x : ByteArray) : (AV.str x).noSl = true := rfl
@[simp] theorem noSl_rsl (s : Nat) (x : List (List AV)) : (AV.rsl s x).noSl = false := rfl
@[simp] theorem noSl_W8 (x : BitVec 8) : (W8 x).noSl = true := rfl
@[simp] theorem noSl_W16 (x : BitVec 16) : (W16 x).noSl = true := rfl
@[simp] theorem noSl_W32 (x : BitVec 32) : (W32 x).noSl = true := rfl
@[simp] theorem noSl_W64 (x : BitVec 64) : (W64 x).noSl = true := rfl
@[simp] theorem noSlC_int (k : IntKind) (x : Int) : (AV.int k x).noSlC = true := rfl
@[simp] theorem noSlC_bool (x : Bool) : (AV.bool x).noSlC = true := rfl
@[simp] theorem noSlC_str (x : ByteArray) : (AV.str x).noSlC = true := rfl
@[simp] theorem noSlC_rsl (s : Nat) (x : List (List AV)) : (AV.rsl s x).noSlC = false := rfl
@[simp] theorem closeUpR_some (l : List (List (Option Nat))) (rs : List AV) (H : AHeap) : closeUpR (some l) (some (rs, H)) = (frzArgs H l rs).map fun p => mkRes p.1 := by
  simp only [closeUpR]; rcases frzArgs H l rs with _ | ⟨a, S⟩ <;> rfl
@[simp] theorem mkRes_one (v : AV) : mkRes [v] = v := rfl
@[simp] theorem mkRes_two (v u : AV) (l : List AV) : mkRes (v :: u :: l) = .tup (v :: u :: l) := rfl
@[simp] theorem raw_some (rs : List AV) (H : AHeap) : raw (some (rs, H)) = some (mkRes rs, H) := rfl
@[simp] theorem withChk_nil {α : Type} (x : Option α) : withChk [] x = x := rfl
@[simp] theorem withChk_true {α : Type} (ps : List Prop) (x : Option α) : withChk (True :: ps) x = withChk ps x := by simp [withChk]
@[simp] theorem bits_i64 : IntKind.bits .i64 = 64 := rfl
@[simp] theorem bits_i32 : IntKind.bits .i32 = 32 := rfl
@[simp] theorem wrap_in (n : Int) (h0 : -9223372036854775808 ≤ n) (h1 : n ≤ 9223372036854775807) : IntKind.i64.wrap n = n := IntWalk.i64_in _ ⟨h0, h1⟩

/-! Loops -/
section
variable {f : AFr → AHeap → ARes}
theorem aloop_exit {fr fr' : AFr} {H H' : AHeap} {e : AEx} (he : e ≠ .normal) (h : f fr H = some (e, fr', H')) : aloop f fr H = some (e, fr', H') := by
  rw [aloop_eq, h]; cases e <;> first | rfl | exact absurd rfl he
theorem aloop_step {fr fr' : AFr} {H H' : AHeap} (h : f fr H = some (.normal, fr', H')) : aloop f fr H = aloop f fr' H' := by
  rw [aloop_eq, h]
/-- A loop, round by round. -/
noncomputable def loopK (f : AFr → AHeap → ARes) (r : ARes) : ARes :=
  match r with
  | some (.normal, fr', H') => aloop f fr' H'
  | r => r
theorem aloop_unroll (fr : AFr) (H : AHeap) : aloop f fr H = loopK f (f fr H) := aloop_eq f fr H
@[simp] theorem loopK_normal (fr : AFr) (H : AHeap) : loopK f (some (.normal, fr, H)) = aloop f fr H := rfl
@[simp] theorem loopK_exit (n : Nat) (fr : AFr) (H : AHeap) : loopK f (some (.exit n, fr, H)) = some (.exit n, fr, H) := rfl
@[simp] theorem loopK_ret (fr : AFr) (H : AHeap) : loopK f (some (.ret, fr, H)) = some (.ret, fr, H) := rfl
@[simp] theorem loopK_cond (p : Prop) (x y : ARes) : loopK f (@acondp p ⟨x⟩ ⟨y⟩) = @acondp p ⟨loopK f x⟩ ⟨loopK f y⟩ := by
  by_cases h : p <;> simp only [h, acondp_true, acondp_false]
/-- Rounds of which each is known. -/
theorem aloop_go (S : Nat → AFr) (T : Nat → AHeap) (n : Nat) (h : ∀ k, k < n → f (S k) (T k) = some (.normal, S (k + 1), T (k + 1))) : ∀ i, i ≤ n → aloop f (S i) (T i) = aloop f (S n) (T n) := by
  intro i hi
  obtain ⟨d, rfl⟩ : ∃ d, n = i + d := ⟨n - i, by omega⟩
  clear hi
  induction d with
  | zero => rfl
  | succ d ih => rw [ih fun k hk => h k (by omega), aloop_step (h (i + d) (by omega))]; rfl
/-- Rounds, each of which keeps what is known of them. -/
theorem aloop_rel (R : Nat → AFr → AHeap → Prop) (n : Nat) (h : ∀ k, k < n → ∀ fr H, R k fr H → ∃ fr' H', f fr H = some (.normal, fr', H') ∧ R (k + 1) fr' H') {fr : AFr} {H : AHeap} (h0 : R 0 fr H) :
    ∃ fr' H', R n fr' H' ∧ aloop f fr H = aloop f fr' H' := by
  induction n with
  | zero => exact ⟨fr, H, h0, rfl⟩
  | succ n ih =>
    obtain ⟨fr', H', h1, h2⟩ := ih fun k hk => h k (by omega)
    obtain ⟨fr2, H2, h3, h4⟩ := h n (by omega) _ _ h1
    exact ⟨fr2, H2, h4, by rw [h2, aloop_step h3]⟩
/-- A loop that ends at a round that is known. -/
theorem aloop_upto (R : Nat → AFr → AHeap → Prop) (n : Nat) (Q : AEx → AFr → AHeap → Prop) (h : ∀ k, k < n → ∀ fr H, R k fr H → ∃ fr' H', f fr H = some (.normal, fr', H') ∧ R (k + 1) fr' H')
    (hx : ∀ fr H, R n fr H → ∃ e fr' H', f fr H = some (e, fr', H') ∧ e ≠ .normal ∧ Q e fr' H') {fr : AFr} {H : AHeap} (h0 : R 0 fr H) :
    ∃ e fr' H', aloop f fr H = some (e, fr', H') ∧ Q e fr' H' := by
  obtain ⟨fr1, H1, h1, h2⟩ := aloop_rel R n h h0
  obtain ⟨e, fr', H', h3, h4, h5⟩ := hx _ _ h1
  exact ⟨e, fr', H', by rw [h2, aloop_exit h4 h3], h5⟩
/-- A loop of which something goes down, and that may end at any round. -/
theorem aloop_down (R : Nat → AFr → AHeap → Prop) (Q : AEx → AFr → AHeap → Prop)
    (h : ∀ d fr H, R d fr H → ∃ e fr' H', f fr H = some (e, fr', H') ∧ ((e = .normal ∧ ∃ d', d' < d ∧ R d' fr' H') ∨ (e ≠ .normal ∧ Q e fr' H'))) :
    ∀ d fr H, R d fr H → ∃ e fr' H', aloop f fr H = some (e, fr', H') ∧ Q e fr' H' := by
  intro d
  induction d using Nat.strongRecOn with
  | _ d ih =>
    intro fr H hR
    obtain ⟨e, fr', H', h1, h2⟩ := h d fr H hR
    rcases h2 with ⟨rfl, d', h3, h4⟩ | ⟨h3, h4⟩
    · obtain ⟨e2, fr2, H2, h5, h6⟩ := ih d' h3 fr' H' h4
      exact ⟨e2, fr2, H2, by rw [aloop_step h1, h5], h6⟩
    · exact ⟨e, fr', H', aloop_exit h3 h1, h4⟩
end

/-! The heap -/
theorem AHeap.WF.set {H : AHeap} {b : Nat} {x : Option Blk} (h : H.WF) (hb : b < H.next) : (H.set b x).WF := fun c z hz => by
  rw [AHeap.get_set] at hz; rw [AHeap.next_set]
  split at hz
  · omega
  · exact h c z hz
theorem AHeap.WF.push {H : AHeap} {x : Blk} (h : H.WF) : (H.push x).WF := fun c z hz => by
  rw [AHeap.get_push] at hz; rw [AHeap.next_push]
  split at hz
  · omega
  · have := h c z hz; omega
theorem AHeap.WF.empty : AHeap.empty.WF := fun b x h => by simp [AHeap.empty] at h
/-- What stays as it was is left alone by forgetting. -/
theorem forget_eq {H H' : AHeap} {rs : List AV} (hw : H.WF) (hn : H.next ≤ H'.next) (h : ∀ c, c < H.next → H'.get c = H.get c) (hc : (mkRes rs).closed = true) : forget H (some (rs, H')) = some (mkRes rs, H) := by
  unfold forget
  dsimp only
  rw [if_pos ⟨hc, fun b hb => .inl (h b hb), hn⟩]
  congr 2
  refine AHeap.eq_of rfl (funext fun b => ?_)
  simp only [AHeap.trunc]
  split
  · rename_i hb; exact h b hb
  · rename_i hb
    cases hg : H.get b with
    | none => rfl
    | some x => exact (hb (hw b x hg)).elim
/-- One block has turned. -/
theorem forget_set {H H' : AHeap} {rs : List AV} {b : Nat} {x : Blk} (hw : H.WF) (hb : b < H.next) (hn : H.next ≤ H'.next) (hx : H'.get b = some x) (h : ∀ c, c < H.next → c ≠ b → H'.get c = H.get c)
    (hi : ∀ row, row ∈ x.rows → ∀ a, a ∈ row → idsBelow H.next a = true) (hc : (mkRes rs).closed = true) : forget H (some (rs, H')) = some (mkRes rs, H.set b (some x)) := by
  have hct : CanTrunc H H' := fun c hb => by
    by_cases e : c = b
    · subst e; exact .inr fun blk hblk => by rw [hx] at hblk; cases hblk; exact hi
    · exact .inl (h c hb e)
  unfold forget
  dsimp only
  rw [if_pos ⟨hc, hct, hn⟩]
  congr 2
  refine AHeap.eq_of rfl (funext fun c => ?_)
  simp only [AHeap.trunc, AHeap.set]
  split
  · split
    · rename_i e; subst e; exact hx
    · exact h c (by assumption) (by assumption)
  · rename_i hb'
    rw [if_neg (by omega)]
    cases hg : H.get c with
    | none => rfl
    | some x => exact (hb' (hw c x hg)).elim
end Go.Abs
