import Derived.Test.YteohnepdbjmghaaAbC
import Derived.Test.YteohnepdbjmghaaWA
import Derived.Test.YteohnepdbjmghaaCoF
import Derived.Test.YteohnepdbjmghaaM1
import Derived.Test.YteohnepdbjmghaaT3
section
set_option linter.unusedSimpArgs false
set_option linter.unusedVariables false
namespace Go.Abs
structure StM where
  r : List (BitVec 32)
  len : r.length = 8
  pc : BitVec 32
  n : Bool
  z : Bool
  c : Bool
  v : Bool
theorem StM.ext_iff' (s t : StM) : s = t ↔ s.r = t.r ∧ s.pc = t.pc ∧ s.n = t.n ∧ s.z = t.z ∧ s.c = t.c ∧ s.v = t.v := by
  cases s; cases t; simp
instance : DecidableEq StM := fun s t => decidable_of_iff _ (StM.ext_iff' s t).symm
def StM.setR (s : StM) (k : Nat) (x : BitVec 32) : StM := { s with r := s.r.set k x, len := by rw [List.length_set]; exact s.len }
def StM.setPC (s : StM) (x : BitVec 32) : StM := { s with pc := x }
def StM.setN (s : StM) (x : Bool) : StM := { s with n := x }
def StM.setZ (s : StM) (x : Bool) : StM := { s with z := x }
def StM.setC (s : StM) (x : Bool) : StM := { s with c := x }
def StM.setV (s : StM) (x : Bool) : StM := { s with v := x }
def StM.reg (s : StM) (k : Nat) : BitVec 32 := at0 s.r k
def StM.cells (s : StM) : List AV := s.r.map W32 ++ [W32 s.pc, .bool s.n, .bool s.z, .bool s.c, .bool s.v]
section
variable (s t : StM)
@[simp] theorem sm_len : s.cells.length = 13 := by simp [StM.cells, s.len]
theorem sm_tail (i : Nat) : s.cells[8 + i]? = [W32 s.pc, .bool s.n, .bool s.z, .bool s.c, .bool s.v][i]? := by
  unfold StM.cells; rw [List.getElem?_append_right (by simp [s.len])]; simp [s.len]
theorem sm_reg (k : Nat) (h : k < 8) : s.cells[k]? = some (W32 (s.reg k)) := by
  unfold StM.cells; rw [List.getElem?_append_left (by simp [s.len, h])]
  rw [List.getElem?_map, at0_get s.r k (by rw [s.len]; exact h)]; rfl
@[simp] theorem sm_8 : s.cells[8]? = some (W32 s.pc) := sm_tail s 0
@[simp] theorem sm_9 : s.cells[9]? = some (.bool s.n) := sm_tail s 1
@[simp] theorem sm_10 : s.cells[10]? = some (.bool s.z) := sm_tail s 2
@[simp] theorem sm_11 : s.cells[11]? = some (.bool s.c) := sm_tail s 3
@[simp] theorem sm_12 : s.cells[12]? = some (.bool s.v) := sm_tail s 4
@[simp] theorem sm_get (k : Nat) (h : k < 8) : s.cells[k]? = some (W32 (s.reg k)) := sm_reg s k h
@[simp] theorem sm_set (k : Nat) (x : BitVec 32) (h : k < 8) : s.cells.set k (W32 x) = (s.setR k x).cells := by
  unfold StM.cells StM.setR; rw [List.set_append_left _ _ (by simp [s.len, h])]; simp [List.map_set]
theorem sm_set_tail (i : Nat) (x : AV) : s.cells.set (8 + i) x = s.r.map W32 ++ [W32 s.pc, .bool s.n, .bool s.z, .bool s.c, .bool s.v].set i x := by
  unfold StM.cells; rw [List.set_append_right _ _ (by simp [s.len])]; simp [s.len]
@[simp] theorem sm_set8 (x : BitVec 32) : s.cells.set 8 (W32 x) = (s.setPC x).cells := sm_set_tail s 0 _
@[simp] theorem sm_set9 (x : Bool) : s.cells.set 9 (.bool x) = (s.setN x).cells := sm_set_tail s 1 _
@[simp] theorem sm_set10 (x : Bool) : s.cells.set 10 (.bool x) = (s.setZ x).cells := sm_set_tail s 2 _
@[simp] theorem sm_set11 (x : Bool) : s.cells.set 11 (.bool x) = (s.setC x).cells := sm_set_tail s 3 _
@[simp] theorem sm_set12 (x : Bool) : s.cells.set 12 (.bool x) = (s.setV x).cells := sm_set_tail s 4 _
theorem sm_mem (a : AV) (h : a ∈ s.cells) : (∃ x, a = W32 x) ∨ ∃ b, a = .bool b := by
  simp only [StM.cells, List.mem_append, List.mem_map, List.mem_cons, List.not_mem_nil, or_false] at h
  rcases h with ⟨x, _, rfl⟩ | rfl | rfl | rfl | rfl | rfl
  · exact .inl ⟨_, rfl⟩
  · exact .inl ⟨_, rfl⟩
  all_goals exact .inr ⟨_, rfl⟩
@[simp] theorem sm_isCell : s.cells.all AV.isCell = true := List.all_eq_true.2 fun a h => by
  rcases sm_mem s a h with ⟨x, rfl⟩ | ⟨b, rfl⟩ <;> rfl
@[simp] theorem sm_flat : s.cells.all AV.flat = true := List.all_eq_true.2 fun a h => by
  rcases sm_mem s a h with ⟨x, rfl⟩ | ⟨b, rfl⟩ <;> rfl
@[simp] theorem sm_take : s.cells.take 13 = s.cells := List.take_of_length_le (by simp)
theorem frzCells_some (H : AHeap) : ∀ (l : List (Option Nat)) (cs : List AV), l.length = cs.length → (∀ a, a ∈ cs → (∃ x, a = W32 x) ∨ ∃ b, a = .bool b) → frzCells H l cs = some (cs, [])
  | [], [], _, _ => rfl
  | n :: l, c :: cs, h, hc => by
    have ih := frzCells_some H l cs (by simpa using h) fun a ha => hc a (List.mem_cons_of_mem _ ha)
    rw [frzCells_cons, ih]
    rcases hc c List.mem_cons_self with ⟨x, rfl⟩ | ⟨b, rfl⟩ <;> rfl
@[simp] theorem sm_frz (H : AHeap) : frzCells H [none, none, none, none, none, none, none, none, none, none, none, none, none] s.cells = some (s.cells, []) :=
  frzCells_some H _ _ (by simp) (sm_mem s)
theorem setCells_all : ∀ (cs l : List AV) (k : Nat), k + cs.length = l.length → setCells l k cs = l.take k ++ cs
  | [], l, k, h => by simp only [setCells, List.append_nil]; rw [List.take_of_length_le (by simp only [List.length_nil] at h; omega)]
  | c :: cs, l, k, h => by
    simp only [List.length_cons] at h
    rw [setCells, setCells_all cs (l.set k c) (k + 1) (by simp; omega)]
    rw [List.take_succ_eq_append_getElem (by simp; omega), List.take_set_of_le (Nat.le_refl k)]
    simp
theorem setCells_full (l cs : List AV) (h : cs.length = l.length) : setCells l 0 cs = cs := by
  rw [setCells_all cs l 0 (by omega)]; rfl
@[simp] theorem sm_over : setCells t.cells 0 s.cells = s.cells := setCells_full _ _ (by simp)
@[simp] theorem sm_over0 (a0 a1 a2 a3 a4 a5 a6 a7 a8 a9 a10 a11 a12 : AV) : setCells [a0, a1, a2, a3, a4, a5, a6, a7, a8, a9, a10, a11, a12] 0 s.cells = s.cells := setCells_full _ _ (by simp)
end
@[simp] theorem setPC_r (s : StM) (x : BitVec 32) : (s.setPC x).r = s.r := rfl
@[simp] theorem setPC_reg (s : StM) (x : BitVec 32) (k : Nat) : (s.setPC x).reg k = s.reg k := rfl
@[simp] theorem setPC_pc (s : StM) (x : BitVec 32) : (s.setPC x).pc = x := rfl
@[simp] theorem setPC_n (s : StM) (x : BitVec 32) : (s.setPC x).n = s.n := rfl
@[simp] theorem setPC_z (s : StM) (x : BitVec 32) : (s.setPC x).z = s.z := rfl
@[simp] theorem setPC_c (s : StM) (x : BitVec 32) : (s.setPC x).c = s.c := rfl
@[simp] theorem setPC_v (s : StM) (x : BitVec 32) : (s.setPC x).v = s.v := rfl
@[simp] theorem setN_r (s : StM) (x : Bool) : (s.setN x).r = s.r := rfl
@[simp] theorem setN_reg (s : StM) (x : Bool) (k : Nat) : (s.setN x).reg k = s.reg k := rfl
@[simp] theorem setN_pc (s : StM) (x : Bool) : (s.setN x).pc = s.pc := rfl
@[simp] theorem setN_n (s : StM) (x : Bool) : (s.setN x).n = x := rfl
@[simp] theorem setN_z (s : StM) (x : Bool) : (s.setN x).z = s.z := rfl
@[simp] theorem setN_c (s : StM) (x : Bool) : (s.setN x).c = s.c := rfl
@[simp] theorem setN_v (s : StM) (x : Bool) : (s.setN x).v = s.v := rfl
@[simp] theorem setZ_r (s : StM) (x : Bool) : (s.setZ x).r = s.r := rfl
@[simp] theorem setZ_reg (s : StM) (x : Bool) (k : Nat) : (s.setZ x).reg k = s.reg k := rfl
@[simp] theorem setZ_pc (s : StM) (x : Bool) : (s.setZ x).pc = s.pc := rfl
@[simp] theorem setZ_n (s : StM) (x : Bool) : (s.setZ x).n = s.n := rfl
@[simp] theorem setZ_z (s : StM) (x : Bool) : (s.setZ x).z = x := rfl
@[simp] theorem setZ_c (s : StM) (x : Bool) : (s.setZ x).c = s.c := rfl
@[simp] theorem setZ_v (s : StM) (x : Bool) : (s.setZ x).v = s.v := rfl
@[simp] theorem setC_r (s : StM) (x : Bool) : (s.setC x).r = s.r := rfl
@[simp] theorem setC_reg (s : StM) (x : Bool) (k : Nat) : (s.setC x).reg k = s.reg k := rfl
@[simp] theorem setC_pc (s : StM) (x : Bool) : (s.setC x).pc = s.pc := rfl
@[simp] theorem setC_n (s : StM) (x : Bool) : (s.setC x).n = s.n := rfl
@[simp] theorem setC_z (s : StM) (x : Bool) : (s.setC x).z = s.z := rfl
@[simp] theorem setC_c (s : StM) (x : Bool) : (s.setC x).c = x := rfl
@[simp] theorem setC_v (s : StM) (x : Bool) : (s.setC x).v = s.v := rfl
@[simp] theorem setV_r (s : StM) (x : Bool) : (s.setV x).r = s.r := rfl
@[simp] theorem setV_reg (s : StM) (x : Bool) (k : Nat) : (s.setV x).reg k = s.reg k := rfl
@[simp] theorem setV_pc (s : StM) (x : Bool) : (s.setV x).pc = s.pc := rfl
@[simp] theorem setV_n (s : StM) (x : Bool) : (s.setV x).n = s.n := rfl
@[simp] theorem setV_z (s : StM) (x : Bool) : (s.setV x).z = s.z := rfl
@[simp] theorem setV_c (s : StM) (x : Bool) : (s.setV x).c = s.c := rfl
@[simp] theorem setV_v (s : StM) (x : Bool) : (s.setV x).v = x := rfl
@[simp] theorem setR_pc (s : StM) (k : Nat) (x : BitVec 32) : (s.setR k x).pc = s.pc := rfl
@[simp] theorem setR_n (s : StM) (k : Nat) (x : BitVec 32) : (s.setR k x).n = s.n := rfl
@[simp] theorem setR_z (s : StM) (k : Nat) (x : BitVec 32) : (s.setR k x).z = s.z := rfl
@[simp] theorem setR_c (s : StM) (k : Nat) (x : BitVec 32) : (s.setR k x).c = s.c := rfl
@[simp] theorem setR_v (s : StM) (k : Nat) (x : BitVec 32) : (s.setR k x).v = s.v := rfl
@[simp] theorem setR_r (s : StM) (k : Nat) (x : BitVec 32) : (s.setR k x).r = s.r.set k x := rfl
end Go.Abs
end
section
set_option linter.unusedSimpArgs false
set_option linter.unusedVariables false
namespace Go.Abs
def flagsM (s : StM) (w : BitVec 32) : StM := (s.setN w.msb).setZ (w == 0#32)
theorem flags_eq (s : StM) (w : BitVec 32) : core_flags.spec [.agg s.cells, W32 w] = some (.agg (flagsM s w).cells) := by
  simp -implicitDefEqProofs +contextual (disch := omega) [core_flags.spec, core_flags, top_msb, flagsM]
def holdB (k : Nat) (s : StM) : Bool :=
  match k with
  | 0 => s.z
  | 1 => s.c
  | 2 => s.n
  | 3 => s.v
  | 4 => s.c && !s.z
  | 5 => s.n == s.v
  | 6 => !s.z && s.n == s.v
  | _ => false
def holdsN (k : Nat) (s : StM) : Bool := holdB (k / 2) s == (k % 2 == 0)
theorem holds_eq (k : Nat) (hk : k ≤ 15) (s : StM) : core_holds.spec [.int .i64 k, .agg s.cells] = some (.bool (holdsN k s)) := by
  have hk' : k = 0 ∨ k = 1 ∨ k = 2 ∨ k = 3 ∨ k = 4 ∨ k = 5 ∨ k = 6 ∨ k = 7 ∨ k = 8 ∨ k = 9 ∨ k = 10 ∨ k = 11 ∨ k = 12 ∨ k = 13 ∨ k = 14 ∨ k = 15 := by omega
  obtain ⟨r, len, pc, n, z, c, v⟩ := s
  rcases hk' with rfl | rfl | rfl | rfl | rfl | rfl | rfl | rfl | rfl | rfl | rfl | rfl | rfl | rfl | rfl | rfl
  all_goals first
    | (simp -implicitDefEqProofs +contextual (disch := omega) [core_holds.spec, core_holds, holdsN, holdB]; done)
    | (cases c <;> simp -implicitDefEqProofs +contextual (disch := omega) [core_holds.spec, core_holds, holdsN, holdB]; done)
    | (cases z <;> simp -implicitDefEqProofs +contextual (disch := omega) [core_holds.spec, core_holds, holdsN, holdB]; done)
    | (cases n <;> cases v <;> simp -implicitDefEqProofs +contextual (disch := omega) [core_holds.spec, core_holds, holdsN, holdB]; done)
    | (cases z <;> cases n <;> cases v <;> simp -implicitDefEqProofs +contextual (disch := omega) [core_holds.spec, core_holds, holdsN, holdB])
def addS (s : StM) (a b : BitVec 32) (c : Bool) : StM × BitVec 32 := (flagsM ((s.setC (addM a b c).c).setV (addM a b c).v) (addM a b c).w, (addM a b c).w)
theorem add_eq (s : StM) (a b : BitVec 32) (c : Bool) : core_add.spec [.agg s.cells, W32 a, W32 b, .bool c] = some (.tup [.agg (addS s a b c).1.cells, W32 (addS s a b c).2]) := by
  have h1 := wAdd_eq a b c
  have h2 := fun s' => flags_eq s' (addM a b c).w
  simp -implicitDefEqProofs +contextual (disch := omega) [core_add.spec, core_add, h1, h2, addS]
def shiftS (s : StM) (k : Nat) (a b : BitVec 32) : StM × BitVec 32 := (flagsM (s.setC (shiftM k a b s.c).c) (shiftM k a b s.c).w, (shiftM k a b s.c).w)
theorem shift_eq (s : StM) (k : Nat) (hk : k ≤ 3) (a b : BitVec 32) : core_shift.spec [.agg s.cells, .int .i64 k, W32 a, W32 b] = some (.tup [.agg (shiftS s k a b).1.cells, W32 (shiftS s k a b).2]) := by
  have h1 := wShift_eq k hk a b s.c
  have h2 := fun s' => flags_eq s' (shiftM k a b s.c).w
  simp -implicitDefEqProofs +contextual (disch := omega) [core_shift.spec, core_shift, h1, h2, shiftS]
def aluM (s : StM) (op : Nat) (a b : BitVec 32) : StM × BitVec 32 :=
  match op with
  | 0 | 8 => (flagsM s (a &&& b), a &&& b)
  | 1 => (flagsM s (a ^^^ b), a ^^^ b)
  | 2 => shiftS s 0 a (b &&& 255#32)
  | 3 => shiftS s 1 a (b &&& 255#32)
  | 4 => shiftS s 2 a (b &&& 255#32)
  | 5 => addS s a b s.c
  | 6 => addS s a (~~~b) s.c
  | 7 => shiftS s 3 a (b &&& 255#32)
  | 9 => addS s 0#32 (~~~b) true
  | 10 => addS s a (~~~b) true
  | 11 => addS s a b false
  | 12 => (flagsM s (a ||| b), a ||| b)
  | 13 => (flagsM s (a * b), a * b)
  | 14 => (flagsM s (a &&& ~~~b), a &&& ~~~b)
  | _ => (flagsM s (~~~b), ~~~b)
theorem alu_eq (s : StM) (k : Nat) (hk : k ≤ 15) (a b : BitVec 32) : core_alu.spec [.agg s.cells, .int .i64 k, W32 a, W32 b] = some (.tup [.agg (aluM s k a b).1.cells, W32 (aluM s k a b).2]) := by
  have hk' : k = 0 ∨ k = 1 ∨ k = 2 ∨ k = 3 ∨ k = 4 ∨ k = 5 ∨ k = 6 ∨ k = 7 ∨ k = 8 ∨ k = 9 ∨ k = 10 ∨ k = 11 ∨ k = 12 ∨ k = 13 ∨ k = 14 ∨ k = 15 := by omega
  have h1 := fun s' w => flags_eq s' w
  have h2 := fun s' a b c => add_eq s' a b c
  have h30 := fun s' a b => shift_eq s' 0 (by omega) a b
  have h31 := fun s' a b => shift_eq s' 1 (by omega) a b
  have h32 := fun s' a b => shift_eq s' 2 (by omega) a b
  have h33 := fun s' a b => shift_eq s' 3 (by omega) a b
  push_cast at h30 h31 h32 h33
  rcases hk' with rfl | rfl | rfl | rfl | rfl | rfl | rfl | rfl | rfl | rfl | rfl | rfl | rfl | rfl | rfl | rfl
  all_goals
    simp -implicitDefEqProofs +contextual (disch := omega) [core_alu.spec, core_alu, aluM, h1, h2, h30, h31, h32, h33]
end Go.Abs
end
section
set_option linter.unusedSimpArgs false
set_option linter.unusedVariables false
namespace Go.Abs
open Th
theorem memPush (B : AHeap) (b wb : Nat) (m : MemM) (x : Blk) (hb : b < B.next) (hwb : wb < B.next) : (B.mem b wb m).push x = (B.push x).mem b wb m := by
  refine mem_of _ _ _ _ _ rfl fun c => ?_
  rw [AHeap.get_push, mem_get, mem_next, AHeap.get_push]
  by_cases e : c = B.next
  · subst e; rw [if_pos rfl, if_neg (by omega), if_neg (by omega), if_pos rfl]
  · rw [if_neg e, if_neg e]
theorem memSet (B : AHeap) (b wb c : Nat) (m : MemM) (x : Option Blk) (hb : c ≠ b) (hwb : c ≠ wb) : (B.mem b wb m).set c x = (B.set c x).mem b wb m := by
  refine mem_of _ _ _ _ _ rfl fun d => ?_
  rw [AHeap.get_set, mem_get, AHeap.get_set]
  by_cases e : d = c
  · subst e; rw [if_pos rfl, if_neg hb, if_neg hwb, if_pos rfl]
  · rw [if_neg e, if_neg e]
theorem memGet (B : AHeap) (b wb c : Nat) (m : MemM) (hb : c ≠ b) (hwb : c ≠ wb) : (B.mem b wb m).get c = B.get c := by
  rw [mem_get, if_neg hb, if_neg hwb]
theorem mem_fin {B B' X : AHeap} {b wb : Nat} {m m' : MemM} {rs : List AV} (hw : B.WF) (hb : b < B.next) (hwb : wb < B.next) (hX : X = B'.mem b wb m') (hn : B.next ≤ B'.next) (hg : ∀ c, c < B.next → B'.get c = B.get c) (hc : (mkRes rs).closed = true) :
    forget (B.mem b wb m) (some (rs, X)) = some (mkRes rs, B.mem b wb m') := by
  subst hX
  have hct : CanTrunc (B.mem b wb m) (B'.mem b wb m') := fun c hcn => by
    rw [mem_get, mem_get]
    split
    · refine .inr fun blk hblk row hr a ha => ?_
      simp only [Option.some.injEq] at hblk
      subst hblk
      simp only [memBlk, List.mem_singleton] at hr
      subst hr
      simp only [List.mem_cons, List.not_mem_nil, or_false] at ha
      rcases ha with rfl | rfl | rfl | rfl | rfl <;> simp [idsBelow, AV.flat, mem_next, hwb]
      rfl
    · split
      · refine .inr fun blk hblk row hr a ha => ?_
        simp only [Option.some.injEq] at hblk
        subst hblk
        have := w32s_flat _ row hr a ha
        cases a <;> simp_all [idsBelow, AV.flat]
      · exact .inl (hg c hcn)
  unfold forget
  dsimp only
  rw [if_pos ⟨hc, hct, hn⟩]
  congr 2
  refine AHeap.eq_of rfl (funext fun c => ?_)
  show (if c < B.next then (B'.mem b wb m').get c else none) = (B.mem b wb m').get c
  by_cases hcn : c < B.next
  · rw [if_pos hcn, mem_get, mem_get, hg c hcn]
  · rw [if_neg hcn]
    cases hh : (B.mem b wb m').get c with
    | none => rfl
    | some x => exact (hcn (mem_wf B b wb m' hw hb hwb c x hh)).elim
theorem mem_san {B : AHeap} {b wb : Nat} {m m' : MemM} {v : AV} (hw : B.WF) (hb : b < B.next) (hwb : wb < B.next) : san (B.mem b wb m) (some (v, B.mem b wb m')) = some (v, B.mem b wb m') := san_wf (mem_wf B b wb m' hw hb hwb) (by simp)
def immW (imm : Int) : BitVec 32 := BitVec.ofInt 32 imm
def reckM (s : StM) (k : Nat) (D N M : Nat) (imm : Int) : StM × BitVec 32 :=
  match k with
  | 0 => (flagsM s (immW imm), immW imm)
  | 1 | 3 => addS s (s.reg D) (~~~(immW imm)) true
  | 2 => addS s (s.reg D) (immW imm) false
  | 4 => shiftS s 0 (s.reg M) (immW imm)
  | 5 => shiftS s 1 (s.reg M) (immW imm)
  | 6 => shiftS s 2 (s.reg M) (immW imm)
  | 7 => addS s (s.reg N) (s.reg M) false
  | 8 => addS s (s.reg N) (~~~(s.reg M)) true
  | 9 => addS s (s.reg N) (immW imm) false
  | 10 => addS s (s.reg N) (~~~(immW imm)) true
  | _ => aluM s imm.toNat (s.reg D) (s.reg M)
theorem reck0 (s : StM) (D N M : Nat) (hD : D < 8) (hN : N < 8) (hM : M < 8) (imm : Int) : core_reckons.spec [.agg s.cells, .agg [.int .i64 0, .int .i64 D, .int .i64 N, .int .i64 M, .int .i64 imm]] = some (.tup [.agg (reckM s 0 D N M imm).1.cells, W32 (reckM s 0 D N M imm).2]) := by
  have h1 := fun s' w => flags_eq s' w
  have h2 := fun s' a b c => add_eq s' a b c
  have h30 := fun s' a b => shift_eq s' 0 (by omega) a b
  have h31 := fun s' a b => shift_eq s' 1 (by omega) a b
  have h32 := fun s' a b => shift_eq s' 2 (by omega) a b
  push_cast at h30 h31 h32
  simp -implicitDefEqProofs +contextual (disch := omega) [core_reckons.spec, core_reckons, reckM, immW, h1, h2, h30, h31, h32]
theorem reck1 (s : StM) (D N M : Nat) (hD : D < 8) (hN : N < 8) (hM : M < 8) (imm : Int) : core_reckons.spec [.agg s.cells, .agg [.int .i64 1, .int .i64 D, .int .i64 N, .int .i64 M, .int .i64 imm]] = some (.tup [.agg (reckM s 1 D N M imm).1.cells, W32 (reckM s 1 D N M imm).2]) := by
  have h1 := fun s' w => flags_eq s' w
  have h2 := fun s' a b c => add_eq s' a b c
  have h30 := fun s' a b => shift_eq s' 0 (by omega) a b
  have h31 := fun s' a b => shift_eq s' 1 (by omega) a b
  have h32 := fun s' a b => shift_eq s' 2 (by omega) a b
  push_cast at h30 h31 h32
  simp -implicitDefEqProofs +contextual (disch := omega) [core_reckons.spec, core_reckons, reckM, immW, h1, h2, h30, h31, h32]
theorem reck2 (s : StM) (D N M : Nat) (hD : D < 8) (hN : N < 8) (hM : M < 8) (imm : Int) : core_reckons.spec [.agg s.cells, .agg [.int .i64 2, .int .i64 D, .int .i64 N, .int .i64 M, .int .i64 imm]] = some (.tup [.agg (reckM s 2 D N M imm).1.cells, W32 (reckM s 2 D N M imm).2]) := by
  have h1 := fun s' w => flags_eq s' w
  have h2 := fun s' a b c => add_eq s' a b c
  have h30 := fun s' a b => shift_eq s' 0 (by omega) a b
  have h31 := fun s' a b => shift_eq s' 1 (by omega) a b
  have h32 := fun s' a b => shift_eq s' 2 (by omega) a b
  push_cast at h30 h31 h32
  simp -implicitDefEqProofs +contextual (disch := omega) [core_reckons.spec, core_reckons, reckM, immW, h1, h2, h30, h31, h32]
theorem reck3 (s : StM) (D N M : Nat) (hD : D < 8) (hN : N < 8) (hM : M < 8) (imm : Int) : core_reckons.spec [.agg s.cells, .agg [.int .i64 3, .int .i64 D, .int .i64 N, .int .i64 M, .int .i64 imm]] = some (.tup [.agg (reckM s 3 D N M imm).1.cells, W32 (reckM s 3 D N M imm).2]) := by
  have h1 := fun s' w => flags_eq s' w
  have h2 := fun s' a b c => add_eq s' a b c
  have h30 := fun s' a b => shift_eq s' 0 (by omega) a b
  have h31 := fun s' a b => shift_eq s' 1 (by omega) a b
  have h32 := fun s' a b => shift_eq s' 2 (by omega) a b
  push_cast at h30 h31 h32
  simp -implicitDefEqProofs +contextual (disch := omega) [core_reckons.spec, core_reckons, reckM, immW, h1, h2, h30, h31, h32]
theorem reck4 (s : StM) (D N M : Nat) (hD : D < 8) (hN : N < 8) (hM : M < 8) (imm : Int) : core_reckons.spec [.agg s.cells, .agg [.int .i64 4, .int .i64 D, .int .i64 N, .int .i64 M, .int .i64 imm]] = some (.tup [.agg (reckM s 4 D N M imm).1.cells, W32 (reckM s 4 D N M imm).2]) := by
  have h1 := fun s' w => flags_eq s' w
  have h2 := fun s' a b c => add_eq s' a b c
  have h30 := fun s' a b => shift_eq s' 0 (by omega) a b
  have h31 := fun s' a b => shift_eq s' 1 (by omega) a b
  have h32 := fun s' a b => shift_eq s' 2 (by omega) a b
  push_cast at h30 h31 h32
  simp -implicitDefEqProofs +contextual (disch := omega) [core_reckons.spec, core_reckons, reckM, immW, h1, h2, h30, h31, h32]
theorem reck5 (s : StM) (D N M : Nat) (hD : D < 8) (hN : N < 8) (hM : M < 8) (imm : Int) : core_reckons.spec [.agg s.cells, .agg [.int .i64 5, .int .i64 D, .int .i64 N, .int .i64 M, .int .i64 imm]] = some (.tup [.agg (reckM s 5 D N M imm).1.cells, W32 (reckM s 5 D N M imm).2]) := by
  have h1 := fun s' w => flags_eq s' w
  have h2 := fun s' a b c => add_eq s' a b c
  have h30 := fun s' a b => shift_eq s' 0 (by omega) a b
  have h31 := fun s' a b => shift_eq s' 1 (by omega) a b
  have h32 := fun s' a b => shift_eq s' 2 (by omega) a b
  push_cast at h30 h31 h32
  simp -implicitDefEqProofs +contextual (disch := omega) [core_reckons.spec, core_reckons, reckM, immW, h1, h2, h30, h31, h32]
theorem reck6 (s : StM) (D N M : Nat) (hD : D < 8) (hN : N < 8) (hM : M < 8) (imm : Int) : core_reckons.spec [.agg s.cells, .agg [.int .i64 6, .int .i64 D, .int .i64 N, .int .i64 M, .int .i64 imm]] = some (.tup [.agg (reckM s 6 D N M imm).1.cells, W32 (reckM s 6 D N M imm).2]) := by
  have h1 := fun s' w => flags_eq s' w
  have h2 := fun s' a b c => add_eq s' a b c
  have h30 := fun s' a b => shift_eq s' 0 (by omega) a b
  have h31 := fun s' a b => shift_eq s' 1 (by omega) a b
  have h32 := fun s' a b => shift_eq s' 2 (by omega) a b
  push_cast at h30 h31 h32
  simp -implicitDefEqProofs +contextual (disch := omega) [core_reckons.spec, core_reckons, reckM, immW, h1, h2, h30, h31, h32]
theorem reck7 (s : StM) (D N M : Nat) (hD : D < 8) (hN : N < 8) (hM : M < 8) (imm : Int) : core_reckons.spec [.agg s.cells, .agg [.int .i64 7, .int .i64 D, .int .i64 N, .int .i64 M, .int .i64 imm]] = some (.tup [.agg (reckM s 7 D N M imm).1.cells, W32 (reckM s 7 D N M imm).2]) := by
  have h1 := fun s' w => flags_eq s' w
  have h2 := fun s' a b c => add_eq s' a b c
  have h30 := fun s' a b => shift_eq s' 0 (by omega) a b
  have h31 := fun s' a b => shift_eq s' 1 (by omega) a b
  have h32 := fun s' a b => shift_eq s' 2 (by omega) a b
  push_cast at h30 h31 h32
  simp -implicitDefEqProofs +contextual (disch := omega) [core_reckons.spec, core_reckons, reckM, immW, h1, h2, h30, h31, h32]
theorem reck8 (s : StM) (D N M : Nat) (hD : D < 8) (hN : N < 8) (hM : M < 8) (imm : Int) : core_reckons.spec [.agg s.cells, .agg [.int .i64 8, .int .i64 D, .int .i64 N, .int .i64 M, .int .i64 imm]] = some (.tup [.agg (reckM s 8 D N M imm).1.cells, W32 (reckM s 8 D N M imm).2]) := by
  have h1 := fun s' w => flags_eq s' w
  have h2 := fun s' a b c => add_eq s' a b c
  have h30 := fun s' a b => shift_eq s' 0 (by omega) a b
  have h31 := fun s' a b => shift_eq s' 1 (by omega) a b
  have h32 := fun s' a b => shift_eq s' 2 (by omega) a b
  push_cast at h30 h31 h32
  simp -implicitDefEqProofs +contextual (disch := omega) [core_reckons.spec, core_reckons, reckM, immW, h1, h2, h30, h31, h32]
theorem reck9 (s : StM) (D N M : Nat) (hD : D < 8) (hN : N < 8) (hM : M < 8) (imm : Int) : core_reckons.spec [.agg s.cells, .agg [.int .i64 9, .int .i64 D, .int .i64 N, .int .i64 M, .int .i64 imm]] = some (.tup [.agg (reckM s 9 D N M imm).1.cells, W32 (reckM s 9 D N M imm).2]) := by
  have h1 := fun s' w => flags_eq s' w
  have h2 := fun s' a b c => add_eq s' a b c
  have h30 := fun s' a b => shift_eq s' 0 (by omega) a b
  have h31 := fun s' a b => shift_eq s' 1 (by omega) a b
  have h32 := fun s' a b => shift_eq s' 2 (by omega) a b
  push_cast at h30 h31 h32
  simp -implicitDefEqProofs +contextual (disch := omega) [core_reckons.spec, core_reckons, reckM, immW, h1, h2, h30, h31, h32]
theorem reck10 (s : StM) (D N M : Nat) (hD : D < 8) (hN : N < 8) (hM : M < 8) (imm : Int) : core_reckons.spec [.agg s.cells, .agg [.int .i64 10, .int .i64 D, .int .i64 N, .int .i64 M, .int .i64 imm]] = some (.tup [.agg (reckM s 10 D N M imm).1.cells, W32 (reckM s 10 D N M imm).2]) := by
  have h1 := fun s' w => flags_eq s' w
  have h2 := fun s' a b c => add_eq s' a b c
  have h30 := fun s' a b => shift_eq s' 0 (by omega) a b
  have h31 := fun s' a b => shift_eq s' 1 (by omega) a b
  have h32 := fun s' a b => shift_eq s' 2 (by omega) a b
  push_cast at h30 h31 h32
  simp -implicitDefEqProofs +contextual (disch := omega) [core_reckons.spec, core_reckons, reckM, immW, h1, h2, h30, h31, h32]
theorem reck11 (s : StM) (D N M : Nat) (hD : D < 8) (hN : N < 8) (hM : M < 8) (imm : Int) (hi : 0 ≤ imm ∧ imm ≤ 15) : core_reckons.spec [.agg s.cells, .agg [.int .i64 11, .int .i64 D, .int .i64 N, .int .i64 M, .int .i64 imm]] = some (.tup [.agg (reckM s 11 D N M imm).1.cells, W32 (reckM s 11 D N M imm).2]) := by
  obtain ⟨q, rfl⟩ : ∃ q : Nat, imm = q := ⟨imm.toNat, by omega⟩
  have h4 := fun a b => alu_eq s q (by omega) a b
  have h1 := fun s' w => flags_eq s' w
  have h2 := fun s' a b c => add_eq s' a b c
  have h30 := fun s' a b => shift_eq s' 0 (by omega) a b
  have h31 := fun s' a b => shift_eq s' 1 (by omega) a b
  have h32 := fun s' a b => shift_eq s' 2 (by omega) a b
  push_cast at h30 h31 h32
  simp -implicitDefEqProofs +contextual (disch := omega) [core_reckons.spec, core_reckons, reckM, immW, h1, h2, h30, h31, h32, h4]
def addrM (s : StM) (k : Nat) (N M : Nat) (imm : Int) : BitVec 32 :=
  match k with
  | 14 | 15 => s.reg N + s.reg M
  | 16 => ((s.pc + 4#32) &&& ~~~3#32) + 4#32 * immW imm
  | _ => s.reg N + 4#32 * immW imm
theorem addr12 (s : StM) (D N M : Nat) (hD : D < 8) (hN : N < 8) (hM : M < 8) (imm : Int) : core_addr.spec [.agg s.cells, .agg [.int .i64 12, .int .i64 D, .int .i64 N, .int .i64 M, .int .i64 imm]] = some (W32 (addrM s 12 N M imm)) := by
  simp -implicitDefEqProofs +contextual (disch := omega) [core_addr.spec, core_addr, addrM, immW]
theorem addr13 (s : StM) (D N M : Nat) (hD : D < 8) (hN : N < 8) (hM : M < 8) (imm : Int) : core_addr.spec [.agg s.cells, .agg [.int .i64 13, .int .i64 D, .int .i64 N, .int .i64 M, .int .i64 imm]] = some (W32 (addrM s 13 N M imm)) := by
  simp -implicitDefEqProofs +contextual (disch := omega) [core_addr.spec, core_addr, addrM, immW]
theorem addr14 (s : StM) (D N M : Nat) (hD : D < 8) (hN : N < 8) (hM : M < 8) (imm : Int) : core_addr.spec [.agg s.cells, .agg [.int .i64 14, .int .i64 D, .int .i64 N, .int .i64 M, .int .i64 imm]] = some (W32 (addrM s 14 N M imm)) := by
  simp -implicitDefEqProofs +contextual (disch := omega) [core_addr.spec, core_addr, addrM, immW]
theorem addr15 (s : StM) (D N M : Nat) (hD : D < 8) (hN : N < 8) (hM : M < 8) (imm : Int) : core_addr.spec [.agg s.cells, .agg [.int .i64 15, .int .i64 D, .int .i64 N, .int .i64 M, .int .i64 imm]] = some (W32 (addrM s 15 N M imm)) := by
  simp -implicitDefEqProofs +contextual (disch := omega) [core_addr.spec, core_addr, addrM, immW]
theorem addr16 (s : StM) (D N M : Nat) (hD : D < 8) (hN : N < 8) (hM : M < 8) (imm : Int) : core_addr.spec [.agg s.cells, .agg [.int .i64 16, .int .i64 D, .int .i64 N, .int .i64 M, .int .i64 imm]] = some (W32 (addrM s 16 N M imm)) := by
  simp -implicitDefEqProofs +contextual (disch := omega) [core_addr.spec, core_addr, addrM, immW]
def moveM (s : StM) (k D : Nat) (a : BitVec 32) (m : MemM) : StM × MemM × Int :=
  if k = 13 ∨ k = 15 then (s, (m.store a (s.reg D)).2, (m.store a (s.reg D)).1)
  else (if (m.loads a).1.2 = 0 then s.setR D (m.loads a).1.1 else s, (m.loads a).2, (m.loads a).1.2)
theorem move13 (B : AHeap) (b wb : Nat) (m : MemM) (hw : B.WF) (hb : b < B.next) (hwb : wb < B.next) (hbw : b ≠ wb) (hm : m.Ok) (s : StM) (D N M : Nat) (hD : D < 8) (hN : N < 8) (hM : M < 8) (imm : Int) : core_moves.spec [.agg s.cells, .agg [.int .i64 13, .int .i64 D, .int .i64 N, .int .i64 M, .int .i64 imm], .ptr b 5 0 0] (B.mem b wb m) =
    some (.tup [.agg (moveM s 13 D (addrM s 13 N M imm) m).1.cells, .int .i64 (moveM s 13 D (addrM s 13 N M imm) m).2.2], B.mem b wb (moveM s 13 D (addrM s 13 N M imm) m).2.1) := by
  have ha := addr13 s D N M hD hN hM imm
  have hS := fun (B : AHeap) (h1 : B.WF) (h2 : b < B.next) (h3 : wb < B.next) => Store_eq B b wb m h1 h2 h3 (addrM s 13 N M imm) (s.reg D) hbw hm
  generalize addrM s 13 N M imm = a at *
  simp only [moveM, if_true, true_or, or_true, Nat.reduceEqDiff, or_self]
  simp -implicitDefEqProofs +contextual (disch := try first | omega | assumption | (simp only [AHeap.next_set, AHeap.next_push]; omega) | ((repeat' (first | assumption | with_reducible apply AHeap.WF.push | with_reducible apply AHeap.WF.set)) <;> first | omega | (simp only [AHeap.next_set, AHeap.next_push]; omega))) [core_moves.spec, core_moves, ha, hS, memPush, memSet, memGet, mem_san]
  refine mem_fin hw hb hwb rfl ?_ ?_ ?_
  · simp; omega
  · intro c hc
    simp (disch := omega)
  · simp [mkRes]
theorem move15 (B : AHeap) (b wb : Nat) (m : MemM) (hw : B.WF) (hb : b < B.next) (hwb : wb < B.next) (hbw : b ≠ wb) (hm : m.Ok) (s : StM) (D N M : Nat) (hD : D < 8) (hN : N < 8) (hM : M < 8) (imm : Int) : core_moves.spec [.agg s.cells, .agg [.int .i64 15, .int .i64 D, .int .i64 N, .int .i64 M, .int .i64 imm], .ptr b 5 0 0] (B.mem b wb m) =
    some (.tup [.agg (moveM s 15 D (addrM s 15 N M imm) m).1.cells, .int .i64 (moveM s 15 D (addrM s 15 N M imm) m).2.2], B.mem b wb (moveM s 15 D (addrM s 15 N M imm) m).2.1) := by
  have ha := addr15 s D N M hD hN hM imm
  have hS := fun (B : AHeap) (h1 : B.WF) (h2 : b < B.next) (h3 : wb < B.next) => Store_eq B b wb m h1 h2 h3 (addrM s 15 N M imm) (s.reg D) hbw hm
  generalize addrM s 15 N M imm = a at *
  simp only [moveM, if_true, true_or, or_true, Nat.reduceEqDiff, or_self]
  simp -implicitDefEqProofs +contextual (disch := try first | omega | assumption | (simp only [AHeap.next_set, AHeap.next_push]; omega) | ((repeat' (first | assumption | with_reducible apply AHeap.WF.push | with_reducible apply AHeap.WF.set)) <;> first | omega | (simp only [AHeap.next_set, AHeap.next_push]; omega))) [core_moves.spec, core_moves, ha, hS, memPush, memSet, memGet, mem_san]
  refine mem_fin hw hb hwb rfl ?_ ?_ ?_
  · simp; omega
  · intro c hc
    simp (disch := omega)
  · simp [mkRes]
theorem move12 (B : AHeap) (b wb : Nat) (m : MemM) (hw : B.WF) (hb : b < B.next) (hwb : wb < B.next) (hbw : b ≠ wb) (hm : m.Ok) (s : StM) (D N M : Nat) (hD : D < 8) (hN : N < 8) (hM : M < 8) (imm : Int) : core_moves.spec [.agg s.cells, .agg [.int .i64 12, .int .i64 D, .int .i64 N, .int .i64 M, .int .i64 imm], .ptr b 5 0 0] (B.mem b wb m) =
    some (.tup [.agg (moveM s 12 D (addrM s 12 N M imm) m).1.cells, .int .i64 (moveM s 12 D (addrM s 12 N M imm) m).2.2], B.mem b wb (moveM s 12 D (addrM s 12 N M imm) m).2.1) := by
  have ha := addr12 s D N M hD hN hM imm
  have hL := fun (B : AHeap) (h1 : B.WF) (h2 : b < B.next) (h3 : wb < B.next) => Load_eq B b wb m h1 h2 h3 (addrM s 12 N M imm) hbw hm
  generalize addrM s 12 N M imm = a at *
  simp only [moveM, if_false, Nat.reduceEqDiff, or_self]
  by_cases he : (m.loads a).1.2 = 0
  · rw [if_pos he]
    simp -implicitDefEqProofs +contextual (disch := try first | omega | assumption | (simp only [AHeap.next_set, AHeap.next_push]; omega) | ((repeat' (first | assumption | with_reducible apply AHeap.WF.push | with_reducible apply AHeap.WF.set)) <;> first | omega | (simp only [AHeap.next_set, AHeap.next_push]; omega))) [core_moves.spec, core_moves, ha, hL, he, memPush, memSet, memGet]
    refine mem_fin hw hb hwb rfl ?_ ?_ ?_
    · simp; omega
    · intro c hc
      simp (disch := omega)
    · simp [mkRes]
  · rw [if_neg he]
    simp -implicitDefEqProofs +contextual (disch := try first | omega | assumption | (simp only [AHeap.next_set, AHeap.next_push]; omega) | ((repeat' (first | assumption | with_reducible apply AHeap.WF.push | with_reducible apply AHeap.WF.set)) <;> first | omega | (simp only [AHeap.next_set, AHeap.next_push]; omega))) [core_moves.spec, core_moves, ha, hL, he, memPush, memSet, memGet]
    refine mem_fin hw hb hwb rfl ?_ ?_ ?_
    · simp; omega
    · intro c hc
      simp (disch := omega)
    · simp [mkRes]
theorem move14 (B : AHeap) (b wb : Nat) (m : MemM) (hw : B.WF) (hb : b < B.next) (hwb : wb < B.next) (hbw : b ≠ wb) (hm : m.Ok) (s : StM) (D N M : Nat) (hD : D < 8) (hN : N < 8) (hM : M < 8) (imm : Int) : core_moves.spec [.agg s.cells, .agg [.int .i64 14, .int .i64 D, .int .i64 N, .int .i64 M, .int .i64 imm], .ptr b 5 0 0] (B.mem b wb m) =
    some (.tup [.agg (moveM s 14 D (addrM s 14 N M imm) m).1.cells, .int .i64 (moveM s 14 D (addrM s 14 N M imm) m).2.2], B.mem b wb (moveM s 14 D (addrM s 14 N M imm) m).2.1) := by
  have ha := addr14 s D N M hD hN hM imm
  have hL := fun (B : AHeap) (h1 : B.WF) (h2 : b < B.next) (h3 : wb < B.next) => Load_eq B b wb m h1 h2 h3 (addrM s 14 N M imm) hbw hm
  generalize addrM s 14 N M imm = a at *
  simp only [moveM, if_false, Nat.reduceEqDiff, or_self]
  by_cases he : (m.loads a).1.2 = 0
  · rw [if_pos he]
    simp -implicitDefEqProofs +contextual (disch := try first | omega | assumption | (simp only [AHeap.next_set, AHeap.next_push]; omega) | ((repeat' (first | assumption | with_reducible apply AHeap.WF.push | with_reducible apply AHeap.WF.set)) <;> first | omega | (simp only [AHeap.next_set, AHeap.next_push]; omega))) [core_moves.spec, core_moves, ha, hL, he, memPush, memSet, memGet]
    refine mem_fin hw hb hwb rfl ?_ ?_ ?_
    · simp; omega
    · intro c hc
      simp (disch := omega)
    · simp [mkRes]
  · rw [if_neg he]
    simp -implicitDefEqProofs +contextual (disch := try first | omega | assumption | (simp only [AHeap.next_set, AHeap.next_push]; omega) | ((repeat' (first | assumption | with_reducible apply AHeap.WF.push | with_reducible apply AHeap.WF.set)) <;> first | omega | (simp only [AHeap.next_set, AHeap.next_push]; omega))) [core_moves.spec, core_moves, ha, hL, he, memPush, memSet, memGet]
    refine mem_fin hw hb hwb rfl ?_ ?_ ?_
    · simp; omega
    · intro c hc
      simp (disch := omega)
    · simp [mkRes]
theorem move16 (B : AHeap) (b wb : Nat) (m : MemM) (hw : B.WF) (hb : b < B.next) (hwb : wb < B.next) (hbw : b ≠ wb) (hm : m.Ok) (s : StM) (D N M : Nat) (hD : D < 8) (hN : N < 8) (hM : M < 8) (imm : Int) : core_moves.spec [.agg s.cells, .agg [.int .i64 16, .int .i64 D, .int .i64 N, .int .i64 M, .int .i64 imm], .ptr b 5 0 0] (B.mem b wb m) =
    some (.tup [.agg (moveM s 16 D (addrM s 16 N M imm) m).1.cells, .int .i64 (moveM s 16 D (addrM s 16 N M imm) m).2.2], B.mem b wb (moveM s 16 D (addrM s 16 N M imm) m).2.1) := by
  have ha := addr16 s D N M hD hN hM imm
  have hL := fun (B : AHeap) (h1 : B.WF) (h2 : b < B.next) (h3 : wb < B.next) => Load_eq B b wb m h1 h2 h3 (addrM s 16 N M imm) hbw hm
  generalize addrM s 16 N M imm = a at *
  simp only [moveM, if_false, Nat.reduceEqDiff, or_self]
  by_cases he : (m.loads a).1.2 = 0
  · rw [if_pos he]
    simp -implicitDefEqProofs +contextual (disch := try first | omega | assumption | (simp only [AHeap.next_set, AHeap.next_push]; omega) | ((repeat' (first | assumption | with_reducible apply AHeap.WF.push | with_reducible apply AHeap.WF.set)) <;> first | omega | (simp only [AHeap.next_set, AHeap.next_push]; omega))) [core_moves.spec, core_moves, ha, hL, he, memPush, memSet, memGet]
    refine mem_fin hw hb hwb rfl ?_ ?_ ?_
    · simp; omega
    · intro c hc
      simp (disch := omega)
    · simp [mkRes]
  · rw [if_neg he]
    simp -implicitDefEqProofs +contextual (disch := try first | omega | assumption | (simp only [AHeap.next_set, AHeap.next_push]; omega) | ((repeat' (first | assumption | with_reducible apply AHeap.WF.push | with_reducible apply AHeap.WF.set)) <;> first | omega | (simp only [AHeap.next_set, AHeap.next_push]; omega))) [core_moves.spec, core_moves, ha, hL, he, memPush, memSet, memGet]
    refine mem_fin hw hb hwb rfl ?_ ?_ ?_
    · simp; omega
    · intro c hc
      simp (disch := omega)
    · simp [mkRes]
end Go.Abs
end
