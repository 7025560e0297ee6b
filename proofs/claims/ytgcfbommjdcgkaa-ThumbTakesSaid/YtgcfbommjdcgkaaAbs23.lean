/-
  The shape of what comes in.
-/
import Derived.Test.YtgcfbommjdcgkaaAbs22
set_option linter.unusedSimpArgs false
set_option linter.unusedVariables false
namespace Go.Abs
/-- A cell's shape. -/
inductive Sh where
  | int (k : IntKind)
  | bool
  | str
  | sl (sz bytes : Nat) (cells : List Sh)

mutual
def ShOk : Sh → AV → Prop
  | .int k, a => ∃ n, a = .int k n ∧ (Lit.int k n).wf = true
  | .bool, a => ∃ b, a = .bool b
  | .str, a => ∃ s : ByteArray, a = .str s ∧ s.size ≤ reachBytes
  | .sl sz bytes cells, a => ∃ rows : List (List AV), a = .rsl sz rows ∧ rows.length * bytes ≤ reachBytes ∧ ∀ row, row ∈ rows → ShsOk cells row
def ShsOk : List Sh → List AV → Prop
  | [], [] => True
  | s :: ss, a :: as => ShOk s a ∧ ShsOk ss as
  | _, _ => False
end

def catSh (g : TypeId → Option (List Sh)) : List Field → Option (List Sh)
  | [] => some []
  | f :: fs => match g f.type, catSh g fs with
    | some a, some b => some (a ++ b)
    | _, _ => none
def repSh (l : List Sh) : Nat → List Sh
  | 0 => []
  | n + 1 => l ++ repSh l n

def shapes (P : Program) : Nat → TypeId → Option (List Sh)
  | 0, _ => none
  | d + 1, t =>
    match P.underlying t with
    | some (.int k) => some [.int k]
    | some .bool => some [.bool]
    | some .string => some [.str]
    | some (.slice e) => match shapes P d e with | some l => some [.sl (P.cellsOf e) (P.bytesOf e) l] | none => none
    | some (.struct fs) => catSh (shapes P d) fs.toList
    | some (.array n e) => match shapes P d e with | some l => some (repSh l n) | none => none
    | _ => none

theorem ShsOk.append : ∀ {ss ss' : List Sh} {as as' : List AV}, ShsOk ss as → ShsOk ss' as' → ShsOk (ss ++ ss') (as ++ as')
  | [], _, [], _, _, h => h
  | [], _, _ :: _, _, h, _ => by simp [ShsOk] at h
  | _ :: _, _, [], _, h, _ => by simp [ShsOk] at h
  | s :: ss, ss', a :: as, as', h, h' => by
    simp only [ShsOk, List.cons_append] at h ⊢
    exact ⟨h.1, ShsOk.append h.2 h'⟩

theorem catSh_ok {P : Program} {g : TypeId → Option (List Sh)} {cs : List AV} {total : Nat} (hl : cs.length = total) : ∀ (fs : List Field) (off : Nat) (ss : List Sh), inRow P total off fs = true → catSh g fs = some ss →
    (∀ f, f ∈ fs → ∀ s, g f.type = some s → ShsOk s ((cs.drop f.offset).take (P.cellsOf f.type))) → ShsOk ss (cs.drop off)
  | [], off, ss, hr, hc, _ => by
    simp only [catSh, Option.some.injEq] at hc
    subst hc
    simp only [inRow, beq_iff_eq] at hr
    rw [List.drop_of_length_le (by omega)]
    trivial
  | f :: fs, off, ss, hr, hc, h => by
    simp only [catSh] at hc
    split at hc <;> try (cases hc; done)
    rename_i a b ha hb
    simp only [Option.some.injEq] at hc
    subst hc
    simp only [inRow, Bool.and_eq_true, beq_iff_eq] at hr
    have h1 := h f List.mem_cons_self a ha
    have h2 := catSh_ok hl fs _ b hr.2 hb fun f' hf' => h f' (List.mem_cons_of_mem _ hf')
    rw [hr.1] at h1
    have := h1.append h2
    rwa [← List.drop_drop, List.take_append_drop] at this

theorem repSh_ok {cs : List AV} {sz : Nat} {l : List Sh} : ∀ (n k : Nat), cs.length = (k + n) * sz → (∀ i, i < n → ShsOk l ((cs.drop ((k + i) * sz)).take sz)) → ShsOk (repSh l n) (cs.drop (k * sz))
  | 0, k, hl, _ => by
    rw [List.drop_of_length_le (by rw [hl]; exact Nat.le_refl _)]
    trivial
  | n + 1, k, hl, h => by
    have h1 := h 0 (by omega)
    have h2 := repSh_ok n (k + 1) (by rw [hl]; congr 1; omega) fun i hi => by
      have := h (i + 1) (by omega)
      rwa [show k + (i + 1) = k + 1 + i from by omega] at this
    have := h1.append h2
    rw [Nat.add_zero, show (k + 1) * sz = k * sz + sz from by rw [Nat.add_mul, Nat.one_mul], ← List.drop_drop, List.take_append_drop] at this
    exact this

theorem shapes_ok {P : Program} : ∀ (d : Nat) (t : TypeId) (ss : List Sh) (cs : List AV), plainTy P d t = true → shapes P d t = some ss → OkCells P d t cs → ShsOk ss cs
  | 0, _, _, _, h, _, _ => by simp [plainTy] at h
  | d + 1, t, ss, cs, hp, hs, ho => by
    simp only [plainTy] at hp
    simp only [shapes] at hs
    simp only [OkCells] at ho
    cases hu : P.underlying t with
    | none => rw [hu] at ho; exact ho.elim
    | some u =>
      rw [hu] at hp hs ho
      cases u <;> dsimp only at hp hs ho <;> try (exact ho.elim)
      case bool => cases hs; obtain ⟨b, rfl⟩ := ho; exact ⟨⟨b, rfl⟩, trivial⟩
      case int k => cases hs; obtain ⟨n, rfl, hw⟩ := ho; exact ⟨⟨n, rfl, hw⟩, trivial⟩
      case string => cases hs; obtain ⟨s, rfl, _, h2⟩ := ho; exact ⟨⟨s, rfl, h2⟩, trivial⟩
      case slice e =>
        split at hs <;> try (cases hs; done)
        rename_i l hl
        simp only [Option.some.injEq] at hs
        subst hs
        obtain ⟨rows, rfl, _, h2, h3⟩ := ho
        simp only [Bool.and_eq_true] at hp
        exact ⟨⟨rows, rfl, h2, fun row hr => shapes_ok d e l row hp.2 hl (h3 row hr)⟩, trivial⟩
      case struct fs =>
        simp only [Bool.and_eq_true, List.all_eq_true] at hp
        have := catSh_ok (P := P) (g := shapes P d) ho.1 fs.toList 0 ss hp.1 hs fun f hf s hsf => shapes_ok d f.type s _ (hp.2 f hf) hsf (ho.2 f hf)
        simpa using this
      case array n e =>
        split at hs <;> try (cases hs; done)
        rename_i l hl
        simp only [Option.some.injEq] at hs
        subst hs
        simp only [Bool.and_eq_true, beq_iff_eq] at hp
        have := repSh_ok (l := l) (sz := P.cellsOf e) (cs := cs) n 0 (by rw [ho.1, hp.1, Nat.zero_add]) fun i hi => shapes_ok d e l _ hp.2 hl (by simpa using ho.2 i hi)
        simpa using this

/-- An argument, by its type's shape. -/
theorem arg_cells {P : Program} {d : Nat} {t : TypeId} {a : AV} {ss : List Sh} (hp : plainTy P d t = true) (hs : shapes P d t = some ss) (h : OkArg P d t a) (hagg : aggT P t = some true) : ∃ cs, a = .agg cs ∧ ShsOk ss cs := by
  unfold OkArg at h
  unfold aggT at hagg
  split at h
  · obtain ⟨cs, rfl, ho⟩ := h; exact ⟨cs, rfl, shapes_ok d t ss cs hp hs ho⟩
  · obtain ⟨cs, rfl, ho⟩ := h; exact ⟨cs, rfl, shapes_ok d t ss cs hp hs ho⟩
  · rename_i h1 h2
    exfalso
    split at hagg
    · rename_i fs hu; exact h1 fs hu
    · rename_i n e hu; exact h2 n e hu
    · simp at hagg
    · simp at hagg
theorem arg_cell {P : Program} {d : Nat} {t : TypeId} {a : AV} {s : Sh} (hp : plainTy P d t = true) (hs : shapes P d t = some [s]) (h : OkArg P d t a) (hagg : aggT P t = some false) : ShOk s a := by
  unfold OkArg at h
  unfold aggT at hagg
  split at h
  · rename_i hu; rw [hu] at hagg; simp at hagg
  · rename_i hu; rw [hu] at hagg; simp at hagg
  · exact (shapes_ok d t [s] [a] hp hs h).1

def argShapes (P : Program) (d : Nat) : List TypeId → Option (List (Bool × List Sh))
  | [] => some []
  | t :: ts => match aggT P t, shapes P d t, argShapes P d ts with
    | some b, some l, some r => if plainTy P d t = true ∧ (b = true ∨ l.length = 1) then some ((b, l) :: r) else none
    | _, _, _ => none
def ArgsSh : List (Bool × List Sh) → List AV → Prop
  | [], [] => True
  | (true, l) :: r, a :: as => (∃ cs, a = .agg cs ∧ ShsOk l cs) ∧ ArgsSh r as
  | (false, l) :: r, a :: as => ShsOk l [a] ∧ ArgsSh r as
  | _, _ => False
/-- All arguments, by their types' shapes. -/
theorem args_ok {P : Program} {d : Nat} : ∀ {ts : List TypeId} {r : List (Bool × List Sh)} {as : List AV}, argShapes P d ts = some r → OkArgs P d ts as → ArgsSh r as
  | [], r, as, h, ho => by
    simp only [argShapes, Option.some.injEq] at h
    subst h
    cases as with
    | nil => trivial
    | cons a as => exact ho.elim
  | t :: ts, r, [], h, ho => ho.elim
  | t :: ts, r, a :: as, h, ho => by
    simp only [argShapes] at h
    split at h <;> try (cases h; done)
    rename_i b l r' h1 h2 h3
    split at h <;> try (cases h; done)
    rename_i hp
    simp only [Option.some.injEq] at h
    subst h
    have ih := args_ok h3 ho.2
    cases b with
    | true => exact ⟨arg_cells hp.1 h2 ho.1 h1, ih⟩
    | false =>
      have hl : l.length = 1 := by simpa using hp.2
      match l, hl with
      | [s], _ => exact ⟨⟨arg_cell hp.1 h2 ho.1 h1, trivial⟩, ih⟩

/-! Single cells -/
theorem sh_u8 {a : AV} (h : ShOk (.int .u8) a) : ∃ x, a = W8 x := by
  simp only [ShOk] at h; obtain ⟨n, rfl, hw⟩ := h; exact wf_u8 hw
theorem sh_u16 {a : AV} (h : ShOk (.int .u16) a) : ∃ x, a = W16 x := by
  simp only [ShOk] at h; obtain ⟨n, rfl, hw⟩ := h; exact wf_u16 hw
theorem sh_u32 {a : AV} (h : ShOk (.int .u32) a) : ∃ x, a = W32 x := by
  simp only [ShOk] at h; obtain ⟨n, rfl, hw⟩ := h; exact wf_u32 hw
theorem sh_u64 {a : AV} (h : ShOk (.int .u64) a) : ∃ x, a = W64 x := by
  simp only [ShOk] at h; obtain ⟨n, rfl, hw⟩ := h; exact wf_u64 hw
/-- A whole number of Go's int. -/
def I64 (n : Int) : Prop := -9223372036854775808 ≤ n ∧ n ≤ 9223372036854775807
theorem sh_i64 {a : AV} (h : ShOk (.int .i64) a) : ∃ n : Int, a = .int .i64 n ∧ I64 n := by
  simp only [ShOk] at h; obtain ⟨n, rfl, hw⟩ := h; exact ⟨n, rfl, wf_i64 hw⟩
theorem sh_bool {a : AV} (h : ShOk .bool a) : ∃ b, a = .bool b := by simpa only [ShOk] using h
theorem shs_nil {as : List AV} (h : ShsOk [] as) : as = [] := by cases as <;> simp_all [ShsOk]
theorem shs_cons {s : Sh} {ss : List Sh} {as : List AV} (h : ShsOk (s :: ss) as) : ∃ a as', as = a :: as' ∧ ShOk s a ∧ ShsOk ss as' := by
  cases as with
  | nil => simp [ShsOk] at h
  | cons a as => simp only [ShsOk] at h; exact ⟨a, as, rfl, h.1, h.2⟩
theorem shs_one {s : Sh} {as : List AV} (h : ShsOk [s] as) : ∃ a, as = [a] ∧ ShOk s a := by
  obtain ⟨a, as', rfl, h1, h2⟩ := shs_cons h
  rw [shs_nil h2]; exact ⟨a, rfl, h1⟩
theorem args_nil {as : List AV} (h : ArgsSh [] as) : as = [] := by cases as <;> simp_all [ArgsSh]
theorem args_one {l : List Sh} {r : List (Bool × List Sh)} {as : List AV} (h : ArgsSh ((false, l) :: r) as) : ∃ a as', as = a :: as' ∧ ShsOk l [a] ∧ ArgsSh r as' := by
  cases as with
  | nil => simp [ArgsSh] at h
  | cons a as => simp only [ArgsSh] at h; exact ⟨a, as, rfl, h.1, h.2⟩
theorem args_agg {l : List Sh} {r : List (Bool × List Sh)} {as : List AV} (h : ArgsSh ((true, l) :: r) as) : ∃ cs as', as = .agg cs :: as' ∧ ShsOk l cs ∧ ArgsSh r as' := by
  cases as with
  | nil => simp [ArgsSh] at h
  | cons a as => simp only [ArgsSh] at h; obtain ⟨⟨cs, rfl, h1⟩, h2⟩ := h; exact ⟨cs, as, rfl, h1, h2⟩
/-- Rows, each as a thing of its own kind. -/
theorem rows_of {α : Type} {enc : α → List AV} {ok : α → Prop} {cells : List Sh} (hrow : ∀ row, ShsOk cells row → ∃ x, row = enc x ∧ ok x) : ∀ rows : List (List AV), (∀ row, row ∈ rows → ShsOk cells row) → ∃ l : List α, rows = l.map enc ∧ ∀ x, x ∈ l → ok x
  | [], _ => ⟨[], rfl, by simp⟩
  | r :: rs, h => by
    obtain ⟨l, rfl, hl⟩ := rows_of hrow rs fun row hr => h row (List.mem_cons_of_mem _ hr)
    obtain ⟨x, rfl, hx⟩ := hrow r (h r List.mem_cons_self)
    refine ⟨x :: l, rfl, fun y hy => ?_⟩
    rcases List.mem_cons.1 hy with rfl | hy
    · exact hx
    · exact hl y hy
theorem sh_sl {α : Type} {enc : α → List AV} {ok : α → Prop} {cells : List Sh} {sz bytes : Nat} {a : AV} (hrow : ∀ row, ShsOk cells row → ∃ x, row = enc x ∧ ok x) (h : ShOk (.sl sz bytes cells) a) :
    ∃ l : List α, a = .rsl sz (l.map enc) ∧ l.length * bytes ≤ 140737488351232 ∧ ∀ x, x ∈ l → ok x := by
  simp only [ShOk] at h
  obtain ⟨rows, rfl, h1, h2⟩ := h
  obtain ⟨l, rfl, hl⟩ := rows_of hrow rows h2
  exact ⟨l, rfl, by simpa [reachBytes] using h1, hl⟩
theorem sh_sl32 {a : AV} {b : Nat} (h : ShOk (.sl 1 b [.int .u32]) a) : ∃ l, a = .rsl 1 (w32s l) ∧ l.length * b ≤ 140737488351232 := by
  obtain ⟨l, h1, h2, _⟩ := sh_sl (enc := fun n => [W32 n]) (ok := fun _ => True) (fun row h => by obtain ⟨a, rfl, q⟩ := shs_one h; obtain ⟨x, rfl⟩ := sh_u32 q; exact ⟨x, rfl, trivial⟩) h
  exact ⟨l, h1, h2⟩
theorem sh_sl16 {a : AV} {b : Nat} (h : ShOk (.sl 1 b [.int .u16]) a) : ∃ l, a = .rsl 1 (w16s l) ∧ l.length * b ≤ 140737488351232 := by
  obtain ⟨l, h1, h2, _⟩ := sh_sl (enc := fun n => [W16 n]) (ok := fun _ => True) (fun row h => by obtain ⟨a, rfl, q⟩ := shs_one h; obtain ⟨x, rfl⟩ := sh_u16 q; exact ⟨x, rfl, trivial⟩) h
  exact ⟨l, h1, h2⟩
theorem sh_sl64 {a : AV} {b : Nat} (h : ShOk (.sl 1 b [.int .u64]) a) : ∃ l, a = .rsl 1 (w64s l) ∧ l.length * b ≤ 140737488351232 := by
  obtain ⟨l, h1, h2, _⟩ := sh_sl (enc := fun n => [W64 n]) (ok := fun _ => True) (fun row h => by obtain ⟨a, rfl, q⟩ := shs_one h; obtain ⟨x, rfl⟩ := sh_u64 q; exact ⟨x, rfl, trivial⟩) h
  exact ⟨l, h1, h2⟩
theorem sh_slint {a : AV} {b : Nat} (h : ShOk (.sl 1 b [.int .i64]) a) : ∃ l, a = .rsl 1 (ints l) ∧ l.length * b ≤ 140737488351232 ∧ ∀ n, n ∈ l → I64 n :=
  sh_sl (enc := fun n => [.int .i64 n]) (fun row h => by obtain ⟨a, rfl, q⟩ := shs_one h; obtain ⟨x, rfl, hx⟩ := sh_i64 q; exact ⟨x, rfl, hx⟩) h
theorem san_wf {H X : AHeap} {v : AV} (hw : X.WF) (hn : H.next ≤ X.next) : san H (some (v, X)) = some (v, X) := by
  unfold san
  dsimp only
  rw [if_pos hn]
  congr 2
  refine AHeap.eq_of rfl (funext fun c => ?_)
  dsimp only
  split
  · rfl
  · rename_i h
    cases hg : X.get c with
    | none => rfl
    | some x => exact (h (hw c x hg)).elim
theorem wf_kill {H : AHeap} {S : List Nat} (h : H.WF) : (H.killAll S).WF := killAll_wf h S
end Go.Abs
