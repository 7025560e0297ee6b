/-
  Lists of words; what comes in, typed.
-/
import Derived.Test.YtgcfbommjdcgkaaAbs21
set_option linter.unusedSimpArgs false
set_option linter.unusedVariables false
namespace Go.Abs
def w8s (l : List (BitVec 8)) : List (List AV) := l.map fun n => [W8 n]
@[simp] theorem w8s_length (l : List (BitVec 8)) : (w8s l).length = l.length := by simp [w8s]
theorem w8s_take (l : List (BitVec 8)) (n : Nat) : (w8s l).take n = w8s (l.take n) := by simp [w8s, List.map_take]
theorem w8s_drop (l : List (BitVec 8)) (n : Nat) : (w8s l).drop n = w8s (l.drop n) := by simp [w8s, List.map_drop]
theorem w8s_append (l k : List (BitVec 8)) : w8s l ++ w8s k = w8s (l ++ k) := by simp [w8s]
theorem w8s_snoc (l : List (BitVec 8)) (x : BitVec 8) : w8s l ++ [[W8 x]] = w8s (l ++ [x]) := by simp [w8s]
@[simp] theorem w8s_set (l : List (BitVec 8)) (n : Nat) (x : BitVec 8) : (w8s l).set n [W8 x] = w8s (l.set n x) := by simp [w8s, List.map_set]
theorem w8s_rep (n : Nat) (x : BitVec 8) : List.replicate n [W8 x] = w8s (List.replicate n x) := by simp [w8s]
theorem w8s_flat (l : List (BitVec 8)) : ∀ row, row ∈ w8s l → ∀ a, a ∈ row → a.flat = true := by
  intro row h a ha; simp only [w8s, List.mem_map] at h; obtain ⟨x, _, rfl⟩ := h; simp at ha; subst ha; rfl
@[simp] theorem w8s_all (l : List (BitVec 8)) : (w8s l).take l.length = w8s l := by rw [w8s_take, List.take_length]
theorem w8s_noSl (l : List (BitVec 8)) : ((w8s l).all fun row => row.length == 1 && row.all AV.noSlC) = true := by simp [w8s, List.all_map]
theorem w8s_inj (l k : List (BitVec 8)) (h : w8s l = w8s k) : l = k := List.map_inj_right (fun x y h => by simpa using h) |>.1 h
def w16s (l : List (BitVec 16)) : List (List AV) := l.map fun n => [W16 n]
@[simp] theorem w16s_length (l : List (BitVec 16)) : (w16s l).length = l.length := by simp [w16s]
theorem w16s_take (l : List (BitVec 16)) (n : Nat) : (w16s l).take n = w16s (l.take n) := by simp [w16s, List.map_take]
theorem w16s_drop (l : List (BitVec 16)) (n : Nat) : (w16s l).drop n = w16s (l.drop n) := by simp [w16s, List.map_drop]
theorem w16s_append (l k : List (BitVec 16)) : w16s l ++ w16s k = w16s (l ++ k) := by simp [w16s]
theorem w16s_snoc (l : List (BitVec 16)) (x : BitVec 16) : w16s l ++ [[W16 x]] = w16s (l ++ [x]) := by simp [w16s]
@[simp] theorem w16s_set (l : List (BitVec 16)) (n : Nat) (x : BitVec 16) : (w16s l).set n [W16 x] = w16s (l.set n x) := by simp [w16s, List.map_set]
theorem w16s_rep (n : Nat) (x : BitVec 16) : List.replicate n [W16 x] = w16s (List.replicate n x) := by simp [w16s]
theorem w16s_flat (l : List (BitVec 16)) : ∀ row, row ∈ w16s l → ∀ a, a ∈ row → a.flat = true := by
  intro row h a ha; simp only [w16s, List.mem_map] at h; obtain ⟨x, _, rfl⟩ := h; simp at ha; subst ha; rfl
@[simp] theorem w16s_all (l : List (BitVec 16)) : (w16s l).take l.length = w16s l := by rw [w16s_take, List.take_length]
theorem w16s_noSl (l : List (BitVec 16)) : ((w16s l).all fun row => row.length == 1 && row.all AV.noSlC) = true := by simp [w16s, List.all_map]
theorem w16s_inj (l k : List (BitVec 16)) (h : w16s l = w16s k) : l = k := List.map_inj_right (fun x y h => by simpa using h) |>.1 h
def w32s (l : List (BitVec 32)) : List (List AV) := l.map fun n => [W32 n]
@[simp] theorem w32s_length (l : List (BitVec 32)) : (w32s l).length = l.length := by simp [w32s]
theorem w32s_take (l : List (BitVec 32)) (n : Nat) : (w32s l).take n = w32s (l.take n) := by simp [w32s, List.map_take]
theorem w32s_drop (l : List (BitVec 32)) (n : Nat) : (w32s l).drop n = w32s (l.drop n) := by simp [w32s, List.map_drop]
theorem w32s_append (l k : List (BitVec 32)) : w32s l ++ w32s k = w32s (l ++ k) := by simp [w32s]
theorem w32s_snoc (l : List (BitVec 32)) (x : BitVec 32) : w32s l ++ [[W32 x]] = w32s (l ++ [x]) := by simp [w32s]
@[simp] theorem w32s_set (l : List (BitVec 32)) (n : Nat) (x : BitVec 32) : (w32s l).set n [W32 x] = w32s (l.set n x) := by simp [w32s, List.map_set]
theorem w32s_rep (n : Nat) (x : BitVec 32) : List.replicate n [W32 x] = w32s (List.replicate n x) := by simp [w32s]
theorem w32s_flat (l : List (BitVec 32)) : ∀ row, row ∈ w32s l → ∀ a, a ∈ row → a.flat = true := by
  intro row h a ha; simp only [w32s, List.mem_map] at h; obtain ⟨x, _, rfl⟩ := h; simp at ha; subst ha; rfl
@[simp] theorem w32s_all (l : List (BitVec 32)) : (w32s l).take l.length = w32s l := by rw [w32s_take, List.take_length]
theorem w32s_noSl (l : List (BitVec 32)) : ((w32s l).all fun row => row.length == 1 && row.all AV.noSlC) = true := by simp [w32s, List.all_map]
theorem w32s_inj (l k : List (BitVec 32)) (h : w32s l = w32s k) : l = k := List.map_inj_right (fun x y h => by simpa using h) |>.1 h
def w64s (l : List (BitVec 64)) : List (List AV) := l.map fun n => [W64 n]
@[simp] theorem w64s_length (l : List (BitVec 64)) : (w64s l).length = l.length := by simp [w64s]
theorem w64s_take (l : List (BitVec 64)) (n : Nat) : (w64s l).take n = w64s (l.take n) := by simp [w64s, List.map_take]
theorem w64s_drop (l : List (BitVec 64)) (n : Nat) : (w64s l).drop n = w64s (l.drop n) := by simp [w64s, List.map_drop]
theorem w64s_append (l k : List (BitVec 64)) : w64s l ++ w64s k = w64s (l ++ k) := by simp [w64s]
theorem w64s_snoc (l : List (BitVec 64)) (x : BitVec 64) : w64s l ++ [[W64 x]] = w64s (l ++ [x]) := by simp [w64s]
@[simp] theorem w64s_set (l : List (BitVec 64)) (n : Nat) (x : BitVec 64) : (w64s l).set n [W64 x] = w64s (l.set n x) := by simp [w64s, List.map_set]
theorem w64s_rep (n : Nat) (x : BitVec 64) : List.replicate n [W64 x] = w64s (List.replicate n x) := by simp [w64s]
theorem w64s_flat (l : List (BitVec 64)) : ∀ row, row ∈ w64s l → ∀ a, a ∈ row → a.flat = true := by
  intro row h a ha; simp only [w64s, List.mem_map] at h; obtain ⟨x, _, rfl⟩ := h; simp at ha; subst ha; rfl
@[simp] theorem w64s_all (l : List (BitVec 64)) : (w64s l).take l.length = w64s l := by rw [w64s_take, List.take_length]
theorem w64s_noSl (l : List (BitVec 64)) : ((w64s l).all fun row => row.length == 1 && row.all AV.noSlC) = true := by simp [w64s, List.all_map]
theorem w64s_inj (l k : List (BitVec 64)) (h : w64s l = w64s k) : l = k := List.map_inj_right (fun x y h => by simpa using h) |>.1 h
/-- An element; 0 beyond. -/
def at0 {n : Nat} (l : List (BitVec n)) (i : Nat) : BitVec n := l.getD i 0#n
theorem at0_get {n : Nat} (l : List (BitVec n)) (i : Nat) (h : i < l.length) : l[i]? = some (at0 l i) := by
  unfold at0; rw [List.getD_eq_getElem?_getD, List.getElem?_eq_getElem h]; rfl
theorem at0_eq {n : Nat} (l : List (BitVec n)) (i : Nat) (h : i < l.length) : at0 l i = l[i] := by
  have := at0_get l i h; rw [List.getElem?_eq_getElem h] at this; exact (Option.some.inj this).symm
@[simp] theorem w8s_get (l : List (BitVec 8)) (n : Nat) : (w8s l)[n]? = if n < l.length then some [W8 (at0 l n)] else none := by
  split
  · rename_i h; simp [w8s, at0_get l n h]
  · rename_i h; simp [w8s]; omega
@[simp] theorem w16s_get (l : List (BitVec 16)) (n : Nat) : (w16s l)[n]? = if n < l.length then some [W16 (at0 l n)] else none := by
  split
  · rename_i h; simp [w16s, at0_get l n h]
  · rename_i h; simp [w16s]; omega
@[simp] theorem w32s_get (l : List (BitVec 32)) (n : Nat) : (w32s l)[n]? = if n < l.length then some [W32 (at0 l n)] else none := by
  split
  · rename_i h; simp [w32s, at0_get l n h]
  · rename_i h; simp [w32s]; omega
@[simp] theorem w64s_get (l : List (BitVec 64)) (n : Nat) : (w64s l)[n]? = if n < l.length then some [W64 (at0 l n)] else none := by
  split
  · rename_i h; simp [w64s, at0_get l n h]
  · rename_i h; simp [w64s]; omega
/-! Lists of whole numbers -/
def ints (l : List Int) : List (List AV) := l.map fun n => [.int .i64 n]
def ati (l : List Int) (i : Nat) : Int := l.getD i 0
theorem ati_get (l : List Int) (i : Nat) (h : i < l.length) : l[i]? = some (ati l i) := by
  unfold ati; rw [List.getD_eq_getElem?_getD, List.getElem?_eq_getElem h]; rfl
theorem ati_eq (l : List Int) (i : Nat) (h : i < l.length) : ati l i = l[i] := by
  have := ati_get l i h; rw [List.getElem?_eq_getElem h] at this; exact (Option.some.inj this).symm
@[simp] theorem ints_length (l : List Int) : (ints l).length = l.length := by simp [ints]
theorem ints_take (l : List Int) (n : Nat) : (ints l).take n = ints (l.take n) := by simp [ints, List.map_take]
theorem ints_drop (l : List Int) (n : Nat) : (ints l).drop n = ints (l.drop n) := by simp [ints, List.map_drop]
theorem ints_append (l k : List Int) : ints l ++ ints k = ints (l ++ k) := by simp [ints]
theorem ints_snoc (l : List Int) (x : Int) : ints l ++ [[.int .i64 x]] = ints (l ++ [x]) := by simp [ints]
@[simp] theorem ints_set (l : List Int) (n : Nat) (x : Int) : (ints l).set n [.int .i64 x] = ints (l.set n x) := by simp [ints, List.map_set]
theorem ints_rep (n : Nat) (x : Int) : List.replicate n [AV.int .i64 x] = ints (List.replicate n x) := by simp [ints]
theorem ints_flat (l : List Int) : ∀ row, row ∈ ints l → ∀ a, a ∈ row → a.flat = true := by
  intro row h a ha; simp only [ints, List.mem_map] at h; obtain ⟨x, _, rfl⟩ := h; simp at ha; subst ha; rfl
@[simp] theorem ints_all (l : List Int) : (ints l).take l.length = ints l := by rw [ints_take, List.take_length]
theorem ints_noSl (l : List Int) : ((ints l).all fun row => row.length == 1 && row.all AV.noSlC) = true := by simp [ints, List.all_map]
@[simp] theorem ints_get (l : List Int) (n : Nat) : (ints l)[n]? = if n < l.length then some [.int .i64 (ati l n)] else none := by
  split
  · rename_i h; simp [ints, ati_get l n h]
  · rename_i h; simp [ints]; omega
theorem killAll_wf {H : AHeap} (h : H.WF) (S : List Nat) : (H.killAll S).WF := fun b x hb => by
  rw [AHeap.get_killAll] at hb
  split at hb
  · cases hb
  · exact h b x hb

/-! What comes in -/
section
variable {P : Program} {d : Nat} {t e : TypeId} {a : AV}
theorem wf_u8 {n : Int} (h : (Lit.int .u8 n).wf = true) : ∃ x : BitVec 8, AV.int .u8 n = W8 x := by
  simp [Lit.wf, IntKind.min, IntKind.max, IntKind.bits, IntKind.signed] at h
  exact ⟨_, W8_of n (by omega) (by omega)⟩
theorem ok_u8 (ht : P.underlying t = some (.int .u8)) (h : OkArg P (d + 1) t a) : ∃ x, a = W8 x := by
  unfold OkArg at h; rw [ht] at h; simp only [OkCells, ht] at h
  obtain ⟨n, h1, h2⟩ := h
  obtain ⟨x, hx⟩ := wf_u8 h2
  exact ⟨x, by simp at h1; rw [h1, hx]⟩
theorem oks_u8 (he : P.underlying e = some (.int .u8)) : ∀ rows : List (List AV), (∀ row, row ∈ rows → OkCells P (d + 1) e row) → ∃ l, rows = w8s l
  | [], _ => ⟨[], rfl⟩
  | r :: rs, h => by
    obtain ⟨l, rfl⟩ := oks_u8 he rs fun row hr => h row (List.mem_cons_of_mem _ hr)
    have := h r List.mem_cons_self
    simp only [OkCells, he] at this
    obtain ⟨n, rfl, h2⟩ := this
    obtain ⟨x, hx⟩ := wf_u8 h2
    exact ⟨x :: l, by rw [hx]; rfl⟩
theorem ok_sl8 (ht : P.underlying t = some (.slice e)) (he : P.underlying e = some (.int .u8)) (hc : P.cellsOf e = 1) (hb : P.bytesOf e = 1) (h : OkArg P (d + 2) t a) : ∃ l, a = .rsl 1 (w8s l) ∧ l.length * 1 ≤ 140737488351232 := by
  unfold OkArg at h; rw [ht] at h; simp only [OkCells, ht] at h
  obtain ⟨rows, h1, _, h2, h3⟩ := h
  obtain ⟨l, rfl⟩ := oks_u8 he rows h3
  rw [hc] at h1; rw [hb] at h2
  exact ⟨l, by simpa using h1, by simpa [reachBytes] using h2⟩
theorem wf_u16 {n : Int} (h : (Lit.int .u16 n).wf = true) : ∃ x : BitVec 16, AV.int .u16 n = W16 x := by
  simp [Lit.wf, IntKind.min, IntKind.max, IntKind.bits, IntKind.signed] at h
  exact ⟨_, W16_of n (by omega) (by omega)⟩
theorem ok_u16 (ht : P.underlying t = some (.int .u16)) (h : OkArg P (d + 1) t a) : ∃ x, a = W16 x := by
  unfold OkArg at h; rw [ht] at h; simp only [OkCells, ht] at h
  obtain ⟨n, h1, h2⟩ := h
  obtain ⟨x, hx⟩ := wf_u16 h2
  exact ⟨x, by simp at h1; rw [h1, hx]⟩
theorem oks_u16 (he : P.underlying e = some (.int .u16)) : ∀ rows : List (List AV), (∀ row, row ∈ rows → OkCells P (d + 1) e row) → ∃ l, rows = w16s l
  | [], _ => ⟨[], rfl⟩
  | r :: rs, h => by
    obtain ⟨l, rfl⟩ := oks_u16 he rs fun row hr => h row (List.mem_cons_of_mem _ hr)
    have := h r List.mem_cons_self
    simp only [OkCells, he] at this
    obtain ⟨n, rfl, h2⟩ := this
    obtain ⟨x, hx⟩ := wf_u16 h2
    exact ⟨x :: l, by rw [hx]; rfl⟩
theorem ok_sl16 (ht : P.underlying t = some (.slice e)) (he : P.underlying e = some (.int .u16)) (hc : P.cellsOf e = 1) (hb : P.bytesOf e = 2) (h : OkArg P (d + 2) t a) : ∃ l, a = .rsl 1 (w16s l) ∧ l.length * 2 ≤ 140737488351232 := by
  unfold OkArg at h; rw [ht] at h; simp only [OkCells, ht] at h
  obtain ⟨rows, h1, _, h2, h3⟩ := h
  obtain ⟨l, rfl⟩ := oks_u16 he rows h3
  rw [hc] at h1; rw [hb] at h2
  exact ⟨l, by simpa using h1, by simpa [reachBytes] using h2⟩
theorem wf_u32 {n : Int} (h : (Lit.int .u32 n).wf = true) : ∃ x : BitVec 32, AV.int .u32 n = W32 x := by
  simp [Lit.wf, IntKind.min, IntKind.max, IntKind.bits, IntKind.signed] at h
  exact ⟨_, W32_of n (by omega) (by omega)⟩
theorem ok_u32 (ht : P.underlying t = some (.int .u32)) (h : OkArg P (d + 1) t a) : ∃ x, a = W32 x := by
  unfold OkArg at h; rw [ht] at h; simp only [OkCells, ht] at h
  obtain ⟨n, h1, h2⟩ := h
  obtain ⟨x, hx⟩ := wf_u32 h2
  exact ⟨x, by simp at h1; rw [h1, hx]⟩
theorem oks_u32 (he : P.underlying e = some (.int .u32)) : ∀ rows : List (List AV), (∀ row, row ∈ rows → OkCells P (d + 1) e row) → ∃ l, rows = w32s l
  | [], _ => ⟨[], rfl⟩
  | r :: rs, h => by
    obtain ⟨l, rfl⟩ := oks_u32 he rs fun row hr => h row (List.mem_cons_of_mem _ hr)
    have := h r List.mem_cons_self
    simp only [OkCells, he] at this
    obtain ⟨n, rfl, h2⟩ := this
    obtain ⟨x, hx⟩ := wf_u32 h2
    exact ⟨x :: l, by rw [hx]; rfl⟩
theorem ok_sl32 (ht : P.underlying t = some (.slice e)) (he : P.underlying e = some (.int .u32)) (hc : P.cellsOf e = 1) (hb : P.bytesOf e = 4) (h : OkArg P (d + 2) t a) : ∃ l, a = .rsl 1 (w32s l) ∧ l.length * 4 ≤ 140737488351232 := by
  unfold OkArg at h; rw [ht] at h; simp only [OkCells, ht] at h
  obtain ⟨rows, h1, _, h2, h3⟩ := h
  obtain ⟨l, rfl⟩ := oks_u32 he rows h3
  rw [hc] at h1; rw [hb] at h2
  exact ⟨l, by simpa using h1, by simpa [reachBytes] using h2⟩
theorem wf_u64 {n : Int} (h : (Lit.int .u64 n).wf = true) : ∃ x : BitVec 64, AV.int .u64 n = W64 x := by
  simp [Lit.wf, IntKind.min, IntKind.max, IntKind.bits, IntKind.signed] at h
  exact ⟨_, W64_of n (by omega) (by omega)⟩
theorem ok_u64 (ht : P.underlying t = some (.int .u64)) (h : OkArg P (d + 1) t a) : ∃ x, a = W64 x := by
  unfold OkArg at h; rw [ht] at h; simp only [OkCells, ht] at h
  obtain ⟨n, h1, h2⟩ := h
  obtain ⟨x, hx⟩ := wf_u64 h2
  exact ⟨x, by simp at h1; rw [h1, hx]⟩
theorem oks_u64 (he : P.underlying e = some (.int .u64)) : ∀ rows : List (List AV), (∀ row, row ∈ rows → OkCells P (d + 1) e row) → ∃ l, rows = w64s l
  | [], _ => ⟨[], rfl⟩
  | r :: rs, h => by
    obtain ⟨l, rfl⟩ := oks_u64 he rs fun row hr => h row (List.mem_cons_of_mem _ hr)
    have := h r List.mem_cons_self
    simp only [OkCells, he] at this
    obtain ⟨n, rfl, h2⟩ := this
    obtain ⟨x, hx⟩ := wf_u64 h2
    exact ⟨x :: l, by rw [hx]; rfl⟩
theorem ok_sl64 (ht : P.underlying t = some (.slice e)) (he : P.underlying e = some (.int .u64)) (hc : P.cellsOf e = 1) (hb : P.bytesOf e = 8) (h : OkArg P (d + 2) t a) : ∃ l, a = .rsl 1 (w64s l) ∧ l.length * 8 ≤ 140737488351232 := by
  unfold OkArg at h; rw [ht] at h; simp only [OkCells, ht] at h
  obtain ⟨rows, h1, _, h2, h3⟩ := h
  obtain ⟨l, rfl⟩ := oks_u64 he rows h3
  rw [hc] at h1; rw [hb] at h2
  exact ⟨l, by simpa using h1, by simpa [reachBytes] using h2⟩
theorem wf_i64 {n : Int} (h : (Lit.int .i64 n).wf = true) : -9223372036854775808 ≤ n ∧ n ≤ 9223372036854775807 := by
  simp [Lit.wf, IntKind.min, IntKind.max, IntKind.bits, IntKind.signed] at h; omega
theorem ok_i64 (ht : P.underlying t = some (.int .i64)) (h : OkArg P (d + 1) t a) : ∃ n : Int, a = .int .i64 n ∧ -9223372036854775808 ≤ n ∧ n ≤ 9223372036854775807 := by
  unfold OkArg at h; rw [ht] at h; simp only [OkCells, ht] at h
  obtain ⟨n, h1, h2⟩ := h
  exact ⟨n, by simpa using h1, wf_i64 h2⟩
theorem oks_i64 (he : P.underlying e = some (.int .i64)) : ∀ rows : List (List AV), (∀ row, row ∈ rows → OkCells P (d + 1) e row) → ∃ l : List Int, rows = ints l ∧ ∀ n, n ∈ l → -9223372036854775808 ≤ n ∧ n ≤ 9223372036854775807
  | [], _ => ⟨[], rfl, by simp⟩
  | r :: rs, h => by
    obtain ⟨l, rfl, hl⟩ := oks_i64 he rs fun row hr => h row (List.mem_cons_of_mem _ hr)
    have := h r List.mem_cons_self
    simp only [OkCells, he] at this
    obtain ⟨n, rfl, h2⟩ := this
    refine ⟨n :: l, rfl, fun m hm => ?_⟩
    rcases List.mem_cons.1 hm with rfl | hm
    · exact wf_i64 h2
    · exact hl m hm
theorem ok_slint (ht : P.underlying t = some (.slice e)) (he : P.underlying e = some (.int .i64)) (hc : P.cellsOf e = 1) (hb : P.bytesOf e = 8) (h : OkArg P (d + 2) t a) :
    ∃ l : List Int, a = .rsl 1 (ints l) ∧ l.length * 8 ≤ 140737488351232 ∧ ∀ n, n ∈ l → -9223372036854775808 ≤ n ∧ n ≤ 9223372036854775807 := by
  unfold OkArg at h; rw [ht] at h; simp only [OkCells, ht] at h
  obtain ⟨rows, h1, _, h2, h3⟩ := h
  obtain ⟨l, rfl, hl⟩ := oks_i64 he rows h3
  rw [hc] at h1; rw [hb] at h2
  exact ⟨l, by simpa using h1, by simpa [reachBytes] using h2, hl⟩
theorem ok_bool (ht : P.underlying t = some .bool) (h : OkArg P (d + 1) t a) : ∃ b, a = .bool b := by
  unfold OkArg at h; rw [ht] at h; simp only [OkCells, ht] at h
  obtain ⟨b, h1⟩ := h
  exact ⟨b, by simpa using h1⟩
end
end Go.Abs
