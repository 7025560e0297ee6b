/-
  Memory: what the program's memory does.
-/
import Derived.Test.YteohnepdbjmghaaLoF
set_option linter.unusedSimpArgs false
set_option linter.unusedVariables false
namespace Go.Abs
structure MemM where
  code : List (BitVec 16)
  words : List (BitVec 32)
  tape : List (BitVec 32)
  drawn : Nat
  bus : BitVec 32
def memBlk (wb : Nat) (m : MemM) : Blk := ⟨T.ty_mem_Mem, 5, false, [[.rsl 1 (w16s m.code), .sl wb 1 0 m.words.length, .rsl 1 (w32s m.tape), .int .i64 m.drawn, W32 m.bus]]⟩
def wrdBlk (l : List (BitVec 32)) : Blk := ⟨T.ty_uint32, 1, true, w32s l⟩
def AHeap.mem (H : AHeap) (b wb : Nat) (m : MemM) : AHeap := (H.set wb (some (wrdBlk m.words))).set b (some (memBlk wb m))
section
variable (H : AHeap) (b wb : Nat) (m m' : MemM)
@[simp] theorem mem_next : (H.mem b wb m).next = H.next := rfl
theorem mem_get (c : Nat) : (H.mem b wb m).get c = if c = b then some (memBlk wb m) else if c = wb then some (wrdBlk m.words) else H.get c := rfl
theorem mem_of (X : AHeap) (hn : X.next = H.next) (h : ∀ c, X.get c = if c = b then some (memBlk wb m) else if c = wb then some (wrdBlk m.words) else H.get c) : X = H.mem b wb m :=
  AHeap.eq_of hn (funext fun c => by rw [h, mem_get])
theorem mem_wf (hw : H.WF) (hb : b < H.next) (hwb : wb < H.next) : (H.mem b wb m).WF := (AHeap.WF.set (AHeap.WF.set hw hwb) hb)
theorem mem_forget (rs : List AV) (hw : H.WF) (hb : b < H.next) (hwb : wb < H.next) (hc : (mkRes rs).closed = true) : forget (H.mem b wb m) (some (rs, H.mem b wb m')) = some (mkRes rs, H.mem b wb m') := by
  have hct : CanTrunc (H.mem b wb m) (H.mem b wb m') := fun c hcn => by
    rw [mem_get, mem_get]
    split
    · refine .inr fun blk hblk row hr a ha => ?_
      simp only [Option.some.injEq] at hblk
      subst hblk
      simp only [memBlk, List.mem_singleton] at hr
      subst hr
      simp only [List.mem_cons, List.not_mem_nil, or_false] at ha
      rcases ha with rfl | rfl | rfl | rfl | rfl <;> simp [idsBelow, AV.flat, mem_next, hwb]
      rfl
    · split
      · refine .inr fun blk hblk row hr a ha => ?_
        simp only [Option.some.injEq] at hblk
        subst hblk
        have := w32s_flat _ row hr a ha
        cases a <;> simp_all [idsBelow, AV.flat]
      · exact .inl rfl
  unfold forget
  dsimp only
  rw [if_pos ⟨hc, hct, Nat.le_refl _⟩]
  congr 2
  refine AHeap.eq_of rfl (funext fun c => ?_)
  show (if c < H.next then (H.mem b wb m').get c else none) = (H.mem b wb m').get c
  by_cases hcn : c < H.next
  · rw [if_pos hcn]
  · rw [if_neg hcn]
    cases hg : (H.mem b wb m').get c with
    | none => rfl
    | some x => exact (hcn (mem_wf H b wb m' hw hb hwb c x hg)).elim
end
def AHeap.bump (H : AHeap) (n : Nat) : AHeap := { next := H.next + n, get := H.get }
@[simp] theorem bump_next (H : AHeap) (n : Nat) : (H.bump n).next = H.next + n := rfl
theorem bump_wf {H : AHeap} (h : H.WF) (n : Nat) : (H.bump n).WF := fun b x hb => Nat.lt_of_lt_of_le (h b x hb) (Nat.le_add_right _ _)
theorem clone16 (l : List (BitVec 16)) (h : l.length ≤ 1000000000) : slices_Clone_uint16.spec [.rsl 1 (w16s l)] = some (.rsl 1 (w16s l)) := by
  simp (disch := omega) only [slices_Clone_uint16.spec, cloneSpec, w16s_noSl, w16s_length, true_and, and_self, if_pos]
theorem clone32 (l : List (BitVec 32)) (h : l.length ≤ 1000000000) : slices_Clone_uint32.spec [.rsl 1 (w32s l)] = some (.rsl 1 (w32s l)) := by
  simp (disch := omega) only [slices_Clone_uint32.spec, cloneSpec, w32s_noSl, w32s_length, true_and, and_self, if_pos]
def MemM.new (code : List (BitVec 16)) (n : Int) (tape : List (BitVec 32)) : MemM := ⟨code.take 60000, List.replicate (min (max n 0) 16000).toNat 0#32, tape, 0, 0#32⟩
theorem new_eq (H : AHeap) (code : List (BitVec 16)) (tape : List (BitVec 32)) (n : Int) (hc : code.length ≤ 1000000000) (ht : tape.length ≤ 1000000000) :
    mem_New.spec [.rsl 1 (w16s code), .int .i64 n, .rsl 1 (w32s tape)] H = some (.ptr (H.next + 1) 5 0 0, (H.bump 2).mem (H.next + 1) H.next (MemM.new code n tape)) := by
  have hc' : (code.take (min (code.length : Int) 60000).toNat).length ≤ 1000000000 := by simp; omega
  have ht' : (code.take (min (code.length : Int) 60000).toNat) = code.take 60000 := by
    by_cases h : code.length ≤ 60000
    · rw [List.take_of_length_le (by omega), List.take_of_length_le (by omega)]
    · rw [show (min (code.length : Int) 60000).toNat = 60000 from by omega]
  simp -implicitDefEqProofs (disch := omega) [mem_New.spec, mem_New, clone16 _ hc', clone32 _ ht, w16s_take]
  refine mem_of _ _ _ _ _ rfl fun c => ?_
  simp only [AHeap.get_push, AHeap.next_push]
  by_cases h1 : c = H.next + 1
  · simp [h1, memBlk, MemM.new, ht']
  · by_cases h2 : c = H.next
    · simp [h1, h2, wrdBlk, MemM.new, w32s_rep]
    · simp [h1, h2, AHeap.bump]
def wslot (a : BitVec 32) : Nat := (a - 536870912#32).toNat / 4
def MemM.at (m : MemM) (a : BitVec 32) : Bool := decide (536870912#32 ≤ a) && decide (wslot a < m.words.length)
def MemM.load (m : MemM) (a : BitVec 32) : (BitVec 32 × Int) × MemM :=
  if a % 4#32 ≠ 0#32 then ((0#32, 50), m)
  else if a = 1073741824#32 then (if m.drawn = m.tape.length then ((0#32, 51), m) else ((at0 m.tape m.drawn, 0), { m with drawn := m.drawn + 1 }))
  else if m.at a = true then ((at0 m.words (wslot a), 0), m)
  else if a.toNat / 2 + 1 < m.code.length then ((((at0 m.code (a.toNat / 2)).setWidth 32) ||| (((at0 m.code (a.toNat / 2 + 1)).setWidth 32) <<< 16), 0), m)
  else ((0#32, 50), m)
def MemM.loads (m : MemM) (a : BitVec 32) : (BitVec 32 × Int) × MemM :=
  let r := m.load a
  (r.1, if r.1.2 = 0 then { r.2 with bus := r.1.1 } else r.2)
def MemM.store (m : MemM) (a w : BitVec 32) : Int × MemM :=
  if m.at a = true ∧ a % 4#32 = 0#32 then (0, { m with words := m.words.set (wslot a) w, bus := w }) else (50, m)
def MemM.fetch (m : MemM) (a : BitVec 32) : BitVec 16 × Int :=
  if a % 2#32 = 0#32 ∧ a.toNat / 2 < m.code.length then (at0 m.code (a.toNat / 2), 0) else (0#16, 50)
structure MemM.Ok (m : MemM) : Prop where
  code : m.code.length ≤ 60000
  words : m.words.length ≤ 16000
  tape : m.tape.length ≤ 1000000000
  drawn : m.drawn ≤ m.tape.length
theorem mem_store_b (H : AHeap) (b wb : Nat) (m m' : MemM) (hc : m'.words = m.words) : (H.mem b wb m).set b (some (memBlk wb m')) = H.mem b wb m' := by
  refine mem_of _ _ _ _ _ rfl fun c => ?_
  rw [AHeap.get_set, mem_get]
  split
  · rfl
  · rw [hc]
theorem mem_store_w (H : AHeap) (b wb : Nat) (m m' : MemM) (hbw : b ≠ wb) (hb : memBlk wb m' = memBlk wb m) : (H.mem b wb m).set wb (some (wrdBlk m'.words)) = H.mem b wb m' := by
  refine mem_of _ _ _ _ _ rfl fun c => ?_
  rw [AHeap.get_set, mem_get]
  by_cases h1 : c = wb
  · rw [if_pos h1, if_neg (by omega), if_pos h1]
  · rw [if_neg h1, if_neg h1, hb]
    by_cases h2 : c = b
    · rw [if_pos h2, if_pos h2]
    · rw [if_neg h2, if_neg h2, if_neg h1]
section
variable (H : AHeap) (b wb : Nat) (m : MemM) (hw : H.WF) (hb : b < H.next) (hwb : wb < H.next)
include hw hb hwb
theorem place_eq (a : BitVec 32) (hm : m.words.length ≤ 16000) : mem_Mem_place.spec [.ptr b 5 0 0, W32 a] (H.mem b wb m) = some (.tup [.int .i64 (wslot a), .bool (m.at a)], H.mem b wb m) := by
  have hs : wslot a = (a - 536870912#32).toNat / 4 := rfl
  have h1 : decide ((((a - 536870912#32).toNat : Int) / 4 < (m.words.length : Int))) = decide (wslot a < m.words.length) := by rw [hs, decide_eq_decide]; omega
  simp -implicitDefEqProofs +contextual (disch := omega) [mem_Mem_place.spec, mem_Mem_place, mem_get, memBlk, -BitVec.toNat_sub]
  rw [mem_forget _ _ _ _ _ _ hw hb hwb (by rfl), h1]
  simp [hs, MemM.at]
theorem load_eq (a : BitVec 32) (hbw : b ≠ wb) (hm : m.Ok) : mem_Mem_load.spec [.ptr b 5 0 0, W32 a] (H.mem b wb m) = some (.tup [W32 (m.load a).1.1, .int .i64 (m.load a).1.2], H.mem b wb (m.load a).2) := by
  have hp := place_eq H b wb m hw hb hwb a hm.words
  have q1 := hm.code; have q2 := hm.words; have q3 := hm.tape; have q4 := hm.drawn
  have e1 : ((a.toNat : Int) / 2).toNat = a.toNat / 2 := by omega
  have e2 : ((a.toNat : Int) / 2 + 1).toNat = a.toNat / 2 + 1 := by omega
  unfold MemM.load
  by_cases h1 : a % 4#32 = 0#32
  · by_cases h2 : a = 1073741824#32
    · subst h2
      by_cases h3 : m.drawn = m.tape.length
      · simp -implicitDefEqProofs +contextual (disch := omega) [mem_Mem_load.spec, mem_Mem_load, mem_get, memBlk, h3]
        exact mem_forget _ _ _ _ _ [_, _] hw hb hwb (by rfl)
      · simp -implicitDefEqProofs +contextual (disch := omega) [mem_Mem_load.spec, mem_Mem_load, mem_get, memBlk, h3]
        exact (congrArg (fun X => forget (H.mem b wb m) (some ([_, _], X))) (mem_store_b H b wb m { m with drawn := m.drawn + 1 } rfl)).trans (mem_forget _ _ _ _ _ [_, _] hw hb hwb (by rfl))
    · by_cases h3 : m.at a = true
      · have h5 : wslot a < m.words.length := by simp [MemM.at] at h3; exact h3.2
        simp -implicitDefEqProofs +contextual (disch := omega) [mem_Mem_load.spec, mem_Mem_load, mem_get, memBlk, wrdBlk, h1, h2, h3, hp]
        exact mem_forget _ _ _ _ _ [W32 _, .int .i64 0] hw hb hwb (by rfl)
      · by_cases h4 : a.toNat / 2 + 1 < m.code.length
        · simp -implicitDefEqProofs +contextual (disch := omega) [mem_Mem_load.spec, mem_Mem_load, mem_get, memBlk, h1, h2, h3, h4, hp, e1, e2]
          exact mem_forget _ _ _ _ _ [_, _] hw hb hwb (by rfl)
        · simp -implicitDefEqProofs +contextual (disch := omega) [mem_Mem_load.spec, mem_Mem_load, mem_get, memBlk, h1, h2, h3, h4, hp]
          exact mem_forget _ _ _ _ _ [_, _] hw hb hwb (by rfl)
  · simp -implicitDefEqProofs +contextual (disch := omega) [mem_Mem_load.spec, mem_Mem_load, mem_get, memBlk, h1]
    exact mem_forget _ _ _ _ _ [_, _] hw hb hwb (by rfl)
theorem Load_eq (a : BitVec 32) (hbw : b ≠ wb) (hm : m.Ok) : mem_Mem_Load.spec [.ptr b 5 0 0, W32 a] (H.mem b wb m) = some (.tup [W32 (m.loads a).1.1, .int .i64 (m.loads a).1.2], H.mem b wb (m.loads a).2) := by
  have hp := load_eq H b wb m hw hb hwb a hbw hm
  unfold MemM.loads
  dsimp only
  generalize m.load a = r at hp
  by_cases h : r.1.2 = 0
  · rw [if_pos h]
    simp -implicitDefEqProofs +contextual (disch := omega) [mem_Mem_Load.spec, mem_Mem_Load, mem_get, memBlk, hp, h]
    exact (congrArg (fun X => forget (H.mem b wb m) (some ([_, _], X))) (mem_store_b H b wb r.2 { r.2 with bus := r.1.1 } rfl)).trans (mem_forget _ _ _ _ _ [_, _] hw hb hwb (by rfl))
  · rw [if_neg h]
    simp -implicitDefEqProofs +contextual (disch := omega) [mem_Mem_Load.spec, mem_Mem_Load, mem_get, memBlk, hp, h]
    exact mem_forget _ _ _ _ _ [_, _] hw hb hwb (by rfl)
theorem Store_eq (a x : BitVec 32) (hbw : b ≠ wb) (hm : m.Ok) : mem_Mem_Store.spec [.ptr b 5 0 0, W32 a, W32 x] (H.mem b wb m) = some (.int .i64 (m.store a x).1, H.mem b wb (m.store a x).2) := by
  have hp := place_eq H b wb m hw hb hwb a hm.words
  unfold MemM.store
  by_cases h3 : m.at a = true
  · have h5 : wslot a < m.words.length := by simp [MemM.at] at h3; exact h3.2
    by_cases h1 : a % 4#32 = 0#32
    · rw [if_pos ⟨h3, h1⟩]
      simp -implicitDefEqProofs +contextual (disch := omega) [mem_Mem_Store.spec, mem_Mem_Store, mem_get, memBlk, wrdBlk, h1, h3, hp]
      have e1 := mem_store_w H b wb m { m with words := m.words.set (wslot a) x } hbw (by simp [memBlk])
      have e2 := mem_store_b H b wb { m with words := m.words.set (wslot a) x } { m with words := m.words.set (wslot a) x, bus := x } rfl
      rw [← e1] at e2
      simp only [memBlk, wrdBlk, List.length_set] at e2
      rw [e2]
      exact mem_forget _ _ _ _ _ [_] hw hb hwb (by rfl)
    · rw [if_neg (fun h => h1 h.2)]
      simp -implicitDefEqProofs +contextual (disch := omega) [mem_Mem_Store.spec, mem_Mem_Store, mem_get, memBlk, wrdBlk, h1, h3, hp]
      exact mem_forget _ _ _ _ _ [_] hw hb hwb (by rfl)
  · rw [if_neg (fun h => h3 h.1)]
    simp -implicitDefEqProofs +contextual (disch := omega) [mem_Mem_Store.spec, mem_Mem_Store, mem_get, memBlk, wrdBlk, h3, hp]
    exact mem_forget _ _ _ _ _ [_] hw hb hwb (by rfl)
theorem Fetch_eq (a : BitVec 32) (hm : m.Ok) : mem_Mem_Fetch.spec [.ptr b 5 0 0, W32 a] (H.mem b wb m) = some (.tup [W16 (m.fetch a).1, .int .i64 (m.fetch a).2], H.mem b wb m) := by
  have q1 := hm.code
  have e1 : ((a.toNat : Int) / 2).toNat = a.toNat / 2 := by omega
  unfold MemM.fetch
  by_cases h1 : a % 2#32 = 0#32
  · by_cases h2 : a.toNat / 2 < m.code.length
    · rw [if_pos ⟨h1, h2⟩]
      simp -implicitDefEqProofs +contextual (disch := omega) [mem_Mem_Fetch.spec, mem_Mem_Fetch, mem_get, memBlk, wrdBlk, h1, h2, e1]
      exact mem_forget _ _ _ _ _ [W16 _, .int .i64 0] hw hb hwb (by rfl)
    · rw [if_neg (fun h => h2 h.2)]
      simp -implicitDefEqProofs +contextual (disch := omega) [mem_Mem_Fetch.spec, mem_Mem_Fetch, mem_get, memBlk, wrdBlk, h1, h2, e1]
      exact mem_forget _ _ _ _ _ [_, _] hw hb hwb (by rfl)
  · rw [if_neg (fun h => h1 h.1)]
    simp -implicitDefEqProofs +contextual (disch := omega) [mem_Mem_Fetch.spec, mem_Mem_Fetch, mem_get, memBlk, wrdBlk, h1, e1]
    exact mem_forget _ _ _ _ _ [_, _] hw hb hwb (by rfl)
end
theorem new_ex (H : AHeap) (code : List (BitVec 16)) (tape : List (BitVec 32)) (n : Int) (hw : H.WF) (hc : code.length ≤ 1000000000) (ht : tape.length ≤ 1000000000) :
    ∃ X : AHeap, X.WF ∧ X.next = H.next + 2 ∧ mem_New.spec [.rsl 1 (w16s code), .int .i64 n, .rsl 1 (w32s tape)] H = some (.ptr (H.next + 1) 5 0 0, X.mem (H.next + 1) H.next (MemM.new code n tape)) ∧ ∀ c, X.get c = H.get c :=
  ⟨H.bump 2, bump_wf hw 2, rfl, new_eq H code tape n hc ht, fun _ => rfl⟩
theorem new_ok (code : List (BitVec 16)) (tape : List (BitVec 32)) (n : Int) (ht : tape.length ≤ 1000000000) : (MemM.new code n tape).Ok :=
  ⟨by simp [MemM.new]; omega, by simp [MemM.new]; omega, ht, by simp [MemM.new]⟩
end Go.Abs
