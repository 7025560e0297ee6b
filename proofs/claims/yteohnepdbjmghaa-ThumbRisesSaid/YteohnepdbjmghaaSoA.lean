import Derived.Test.YteohnepdbjmghaaAbC
import Derived.Sort.Grow
section
set_option linter.unusedSimpArgs false
set_option linter.unusedVariables false
namespace Go.Abs
open Go.Sort
def intK (k : IntKind) : AV → Option Int
  | .int k' n => if k' = k then some n else none
  | _ => none
def intsK (k : IntKind) : List (List AV) → Option (List Int)
  | [] => some []
  | [a] :: rows => match intK k a, intsK k rows with
    | some n, some l => some (n :: l)
    | _, _ => none
  | _ :: _ => none
def rowsK (k : IntKind) (l : List Int) : List (List AV) := l.map fun n => [.int k n]
theorem intsK_eq {k : IntKind} : ∀ {rows : List (List AV)} {l : List Int}, intsK k rows = some l → rows = rowsK k l
  | [], l, h => by simp only [intsK, Option.some.injEq] at h; subst h; rfl
  | [] :: rows, l, h => by simp [intsK] at h
  | [a] :: rows, l, h => by
    simp only [intsK] at h
    split at h <;> try (cases h; done)
    rename_i n l' h1 h2
    simp only [Option.some.injEq] at h
    subst h
    cases a <;> simp only [intK] at h1 <;> try (cases h1; done)
    split at h1 <;> try (cases h1; done)
    rename_i e
    simp only [Option.some.injEq] at h1
    subst e h1
    rw [intsK_eq h2]; rfl
  | (a :: b :: c) :: rows, l, h => by simp [intsK] at h
theorem intsK_rows (k : IntKind) : ∀ l : List Int, intsK k (rowsK k l) = some l
  | [] => rfl
  | n :: l => by
    have := intsK_rows k l
    unfold rowsK at this ⊢
    simp only [List.map_cons, intsK, intK, if_pos, this]
def sortI (l : List Int) : List Int := l.mergeSort fun x y => decide (x ≤ y)
theorem sortI_length (l : List Int) : (sortI l).length = l.length := List.length_mergeSort l
def sort1 (k : IntKind) (H : AHeap) : AV → Option (AV × AHeap)
  | .sl b sz off len => match H.get b with
    | some blk => if blk.sz = 1 ∧ sz = 1 ∧ off + len ≤ blk.rows.length ∧ len < 4611686018427387904 then
        match intsK k ((blk.rows.drop off).take len) with
        | some l => some (.tup [], H.set b (some { e := blk.e, sz := 1, flat := blk.flat, rows := blk.rows.take off ++ rowsK k (sortI l) ++ blk.rows.drop (off + len) }))
        | none => none
      else none
    | none => none
  | .nils => some (.tup [], H)
  | .esl _ => some (.tup [], H)
  | _ => none
def sortSpec (k : IntKind) : List AV → AHeap → Option (AV × AHeap)
  | [a], H => sort1 k H a
  | _, _ => none
section
variable {P : Program} {w : World} {F A : Nat → Prop} {m : Nat → Nat} {H : AHeap}
theorem Inv.grow (I : Inv w F A m H) (os : Array Obj) : Inv (grow w os) F A m H where
  own := I.own
  inj := I.inj
  bound := fun cb h => by have := I.bound cb h; simp; omega
  blk := fun b blk hb => by
    obtain ⟨c, hc, hr⟩ := I.blk b blk hb
    have hlt := I.bound _ (I.own b blk hb).2
    refine ⟨c, by rw [heap_grow_old w os hlt]; exact hc, hr.fits, hr.wide, hr.flat, fun i row j a h1 h2 => ?_⟩
    obtain ⟨v, q1, q2, q3⟩ := hr.cell i row j a h1 h2
    exact ⟨v, q1, q2, q3.mono (by simp) (fun cb h => shape?_of_heap (heap_grow_old w os h)) (fun cb h _ => heap_grow_old w os h) (fun _ _ h => h) (fun _ h => ⟨h, rfl⟩)⟩
theorem Evo.grow (os : Array Obj) : Evo w F A m H (grow w os) F A m H where
  os := rfl
  tape := rfl
  output := rfl
  size := by simp
  shape := fun cb h => shape?_of_heap (heap_grow_old w os h)
  same := fun cb h _ => heap_grow_old w os h
  forb := fun _ h => .inl h
  keep := fun _ _ h _ => h
  ext := fun _ h => ⟨h, rfl⟩
  owns := fun b blk h => .inl ⟨b, blk, h, rfl⟩
theorem putRow_eq_setRow {k : IntKind} {b off : Nat} {c : Array Value} {e : TypeId} (hc : w.heap[b]? = some (.cells c e (0, 0))) (d : Array Int) :
    putRow (Value.int k) w b off d = w.setRow b (putCells (Value.int k) off d c) := by
  unfold putRow mapBlock World.setRow
  congr 1
  apply Array.ext_getElem?
  intro j
  simp only [Array.getElem?_modify]
  by_cases hj : b = j
  · subst hj
    simp only [if_true, hc, Option.map_some, onCells]
  · simp [hj]
theorem RV.sl_inv {b sz off len : Nat} {v : Value} (h : RV w F A m (.sl b sz off len) v) : ∃ cap, v = .slice (some ⟨m b, off * sz, none⟩) len cap := by
  cases h with
  | sl _ _ _ _ cap e _ _ _ _ => exact ⟨cap, rfl⟩
theorem sound_sort {f : FuncId} {k : IntKind} (hcall : Callable P f)
    (hs : ∀ (blk off cap : Nat) (zs : List Int) (w : World), Holds (Value.int k) w blk off zs.toArray → blk < w.heap.size → zs.length < 4611686018427387904 →
      Calls P f #[.slice (some ⟨blk, off, none⟩) zs.length cap] w fun e w' => e = .returned (.tuple #[]) ∧ ∃ n os, w' = grow (putRow (Value.int k) (Sort.ahead w n) blk off (zs.mergeSort fun x y => decide (x ≤ y)).toArray) os)
    (h0 : ∀ (p : Option Addr) (cap : Nat) (w : World), Calls P f #[.slice p 0 cap] w fun e w' => e = .returned (.tuple #[]) ∧ w' = w) : Sound P f (.ref [false] (sortSpec k)) := by
  refine ⟨hcall, fun args H r H' h w F m vs I ha => ?_⟩
  have hone : ∃ a v, args = [a] ∧ vs = #[v] ∧ RV w F (Nx H) m a v := by
    have hl := ha.1
    match args, h with
    | [a], _ =>
      have : vs.toList.length = 1 := by simpa using hl.symm
      obtain ⟨v, hv⟩ := List.length_eq_one_iff.1 this
      exact ⟨a, v, rfl, by rw [← Array.toArray_toList (xs := vs), hv], ha.2 0 a v rfl (by rw [hv]; rfl)⟩
    | [], h => simp [sortSpec] at h
    | _ :: _ :: _, h => simp [sortSpec] at h
  obtain ⟨a, v, rfl, rfl, hv⟩ := hone
  have nothing : ∀ {p cap}, v = .slice p 0 cap → r = .tup [] → H' = H → Calls P f #[v] w fun e w' => ∃ v F' m', e = .returned v ∧ Inv w' F' (Nx H') m' H' ∧ RV w' F' (Nx H') m' r v ∧ Evo w F (Nx H) m H w' F' (Nx H') m' H' := by
    rintro p cap rfl rfl rfl
    refine (h0 p cap w).mono ?_
    rintro e w' ⟨rfl, rfl⟩
    exact ⟨_, F, m, rfl, I, .tup [] #[] rfl (by simp), Evo.refl⟩
  replace h : sort1 k H a = some (r, H') := h
  cases a <;> try (cases h; done)
  case sl b sz off len =>
    simp only [sort1] at h
    split at h <;> try (cases h; done)
    rename_i blk hb
    split at h <;> try (cases h; done)
    rename_i hok
    obtain ⟨hsz, rfl, hfit, hlen⟩ := hok
    split at h <;> try (cases h; done)
    rename_i l hl
    simp only [Option.some.injEq, Prod.mk.injEq] at h
    obtain ⟨rfl, rfl⟩ := h
    have hrows := intsK_eq hl
    have hll : l.length = len := by
      have := congrArg List.length hrows
      simp [rowsK] at this
      omega
    obtain ⟨c, hc, hr⟩ := I.blk b blk hb
    obtain ⟨hA, hFb⟩ := I.own b blk hb
    have hbs := I.bound _ hFb
    obtain ⟨cap, rfl⟩ := hv.sl_inv
    rw [Nat.mul_one]
    have hfits := hr.fits
    rw [hsz, Nat.mul_one] at hfits
    have hrow : ∀ j, (hj : j < len) → blk.rows[off + j]? = some [.int k l[j]] := fun j hj => by
      have h1 : ((blk.rows.drop off).take len)[j]? = (rowsK k l)[j]? := by rw [hrows]
      rw [List.getElem?_take, if_pos hj, List.getElem?_drop] at h1
      rw [h1]
      simp [rowsK, hll, hj]
    have hcell : ∀ j, (hj : j < len) → c[off + j]? = some (.int k l[j]) := fun j hj => by
      obtain ⟨u, q1, q2, q3⟩ := hr.cell (off + j) _ 0 _ (hrow j hj) rfl
      rw [hsz, Nat.mul_one, Nat.add_zero] at q1
      cases q3
      exact q1
    have hH : Holds (Value.int k) w (m b) off l.toArray := fun j hj => by
      have hj' : j < len := by simpa [hll] using hj
      refine ⟨?_, ?_⟩
      · simp only [World.cell?, hc]
        rw [if_neg (by simp), hcell j hj']
        have : j < l.length := by omega
        simp [this]
      · simp [World.frozen?, hc]
    have hcalls := hs (m b) off cap l w hH hbs (by omega)
    rw [hll] at hcalls
    refine hcalls.mono ?_
    rintro e' w' ⟨rfl, n, os, rfl⟩
    have hsl : (sortI l).length = len := by rw [sortI_length, hll]
    have hc' : (Sort.ahead w n).heap[m b]? = some (.cells c blk.e (0, 0)) := hc
    have I' : Inv (Sort.ahead w n) F (Nx H) m H := I.drew
    obtain ⟨c', hc2, hr'⟩ := I'.blk b blk hb
    rw [hc'] at hc2
    simp only [Option.some.injEq, Obj.cells.injEq, and_true] at hc2
    obtain rfl := hc2
    rw [putRow_eq_setRow hc']
    have hkey : ∀ q, (putCells (Value.int k) off (sortI l).toArray c)[q]? = if off ≤ q ∧ q < off + len then (sortI l)[q - off]?.map (Value.int k) else c[q]? := fun q => by
      simp only [putCells, Array.getElem?_mapIdx, List.size_toArray, hsl]
      by_cases hq : off ≤ q ∧ q < off + len
      · rw [if_pos hq]
        have h1 : q - off < (sortI l).length := by omega
        have h2 : q < c.size := by omega
        simp [h1, h2, hq]
      · rw [if_neg hq]
        cases c[q]? with
        | none => rfl
        | some y => rw [Option.map_some, if_neg hq]
    obtain ⟨q1, q2⟩ := setRow_sound (blk := blk) (blk' := { e := blk.e, sz := 1, flat := blk.flat, rows := blk.rows.take off ++ rowsK k (sortI l) ++ blk.rows.drop (off + len) }) (c' := putCells (Value.int k) off (sortI l).toArray c) rfl I' hb hc' (by simp [putCells])
      ⟨by
          simp only [List.length_append, List.length_take, List.length_drop, rowsK, List.length_map, hsl, putCells, Array.size_mapIdx, Nat.mul_one]
          omega,
        fun row hm => by
          simp only [List.mem_append] at hm
          rcases hm with (hm | hm) | hm
          · rw [hr.wide row (List.mem_of_mem_take hm), hsz]
          · obtain ⟨x, _, rfl⟩ := List.mem_map.1 hm; rfl
          · rw [hr.wide row (List.mem_of_mem_drop hm), hsz],
        fun hfl row hm a ha => by
          simp only [List.mem_append] at hm
          rcases hm with (hm | hm) | hm
          · exact hr.flat hfl row (List.mem_of_mem_take hm) a ha
          · obtain ⟨x, _, rfl⟩ := List.mem_map.1 hm
            simp only [List.mem_singleton] at ha; subst ha; rfl
          · exact hr.flat hfl row (List.mem_of_mem_drop hm) a ha,
        fun i row j a h1 h2 => by
          dsimp only at h1 ⊢
          rw [Nat.mul_one, hkey]
          by_cases hi : off ≤ i ∧ i < off + len
          · have e1 : (blk.rows.take off ++ rowsK k (sortI l) ++ blk.rows.drop (off + len))[i]? = (rowsK k (sortI l))[i - off]? := by
              have hlt : (blk.rows.take off).length = off := by simp; omega
              rw [List.getElem?_append_left (by rw [List.length_append, hlt]; simp [rowsK, hsl]; omega), List.getElem?_append_right (by rw [hlt]; exact hi.1), hlt]
            rw [e1] at h1
            have hq : i - off < (sortI l).length := by omega
            simp only [rowsK, List.getElem?_map, List.getElem?_eq_getElem hq, Option.map_some, Option.some.injEq] at h1
            subst h1
            have hj : j = 0 := by
              have := (List.getElem?_eq_some_iff.1 h2).1
              simpa using this
            subst hj
            simp only [List.getElem?_cons_zero, Option.some.injEq] at h2
            subst h2
            rw [Nat.add_zero, if_pos hi, List.getElem?_eq_getElem hq]
            exact ⟨_, rfl, rfl, .int _ _⟩
          · have e1 : (blk.rows.take off ++ rowsK k (sortI l) ++ blk.rows.drop (off + len))[i]? = blk.rows[i]? := by
              have hlt : (blk.rows.take off).length = off := by simp; omega
              have hmid : (rowsK k (sortI l)).length = len := by simp [rowsK, hsl]
              by_cases h3 : i < off
              · rw [List.append_assoc, List.getElem?_append_left (by omega), List.getElem?_take, if_pos h3]
              · rw [List.getElem?_append_right (by rw [List.length_append, hlt, hmid]; omega), List.length_append, hlt, hmid, List.getElem?_drop]
                congr 1; omega
            rw [e1] at h1
            have hj : j = 0 := by
              have h3 := hr.wide row (List.mem_of_getElem? h1)
              have := (List.getElem?_eq_some_iff.1 h2).1
              omega
            subst hj
            rw [Nat.add_zero, if_neg hi]
            obtain ⟨u, u1, u2, u3⟩ := hr'.cell i row 0 a h1 h2
            rw [hsz, Nat.mul_one, Nat.add_zero] at u1
            exact ⟨u, u1, u2, u3⟩⟩
    refine ⟨_, F, m, rfl, Inv.grow q1 os, .tup [] #[] rfl (by simp), ?_⟩
    exact (Evo.drew.trans q2).trans (Evo.grow os)
  case nils =>
    simp only [sort1, Option.some.injEq, Prod.mk.injEq] at h
    cases hv
    exact nothing rfl h.1.symm h.2.symm
  case esl =>
    simp only [sort1, Option.some.injEq, Prod.mk.injEq] at h
    cases hv
    exact nothing rfl h.1.symm h.2.symm
end
end Go.Abs
end
section
set_option linter.unusedVariables false
namespace Go.Abs
def compactI : List Int → List Int
  | [] => []
  | [a] => [a]
  | a :: b :: l => if a = b then compactI (b :: l) else a :: compactI (b :: l)
theorem mem_compactI (x : Int) : ∀ l : List Int, x ∈ compactI l ↔ x ∈ l
  | [] => Iff.rfl
  | [a] => Iff.rfl
  | a :: b :: l => by
    have ih := mem_compactI x (b :: l)
    unfold compactI
    split
    · rename_i h; subst h; rw [ih]; simp
    · rw [List.mem_cons, ih, List.mem_cons (a := x) (b := a)]
theorem compactI_rises : ∀ l : List Int, l.Pairwise (· ≤ ·) → (compactI l).Pairwise (· < ·)
  | [], _ => List.Pairwise.nil
  | [a], _ => by simp [compactI]
  | a :: b :: l, h => by
    have h2 := List.pairwise_cons.1 h
    have ih := compactI_rises (b :: l) h2.2
    unfold compactI
    split
    · exact ih
    · rename_i hne
      refine List.pairwise_cons.2 ⟨fun x hx => ?_, ih⟩
      rw [mem_compactI] at hx
      have hb := h2.1 b (by simp)
      rcases List.mem_cons.1 hx with rfl | hx
      · omega
      · have := (List.pairwise_cons.1 h2.2).1 x hx
        omega
theorem compactI_length : ∀ l : List Int, (compactI l).length ≤ l.length
  | [] => by simp [compactI]
  | [a] => by simp [compactI]
  | a :: b :: l => by
    have := compactI_length (b :: l)
    unfold compactI
    split
    · simp at this ⊢; omega
    · simp at this ⊢; omega
theorem rises_ext : ∀ (a b : List Int), a.Pairwise (· < ·) → b.Pairwise (· < ·) → (∀ x, x ∈ a ↔ x ∈ b) → a = b
  | [], [], _, _, _ => rfl
  | [], y :: b, _, _, h => by have := (h y).2 (by simp); simp at this
  | x :: a, [], _, _, h => by have := (h x).1 (by simp); simp at this
  | x :: a, y :: b, ha, hb, h => by
    have ha' := List.pairwise_cons.1 ha
    have hb' := List.pairwise_cons.1 hb
    have hxy : x = y := by
      have h1 := (h x).1 (by simp)
      have h2 := (h y).2 (by simp)
      rcases List.mem_cons.1 h1 with e | h1
      · exact e
      · rcases List.mem_cons.1 h2 with e | h2
        · exact e.symm
        · have := ha'.1 y h2
          have := hb'.1 x h1
          omega
    subst hxy
    congr 1
    refine rises_ext a b ha'.2 hb'.2 fun z => ?_
    constructor
    · intro hz
      have := ha'.1 z hz
      rcases List.mem_cons.1 ((h z).1 (by simp [hz])) with e | h1
      · omega
      · exact h1
    · intro hz
      have := hb'.1 z hz
      rcases List.mem_cons.1 ((h z).2 (by simp [hz])) with e | h1
      · omega
      · exact h1
theorem sortI_rises (l : List Int) : (sortI l).Pairwise (· ≤ ·) := by
  have h := List.pairwise_mergeSort (le := fun x y : Int => decide (x ≤ y)) (fun a b c h1 h2 => by simp at *; omega) (fun a b => by simp; omega) l
  exact h.imp (fun h => by simpa using h)
theorem mem_sortI (x : Int) (l : List Int) : x ∈ sortI l ↔ x ∈ l := List.mem_mergeSort
theorem compactI_snoc : ∀ (l : List Int) (a x : Int), compactI (a :: l ++ [x]) = if (a :: l).getLast (by simp) = x then compactI (a :: l) else compactI (a :: l) ++ [x]
  | [], a, x => by
    show compactI [a, x] = _
    unfold compactI
    by_cases h : a = x
    · subst h; simp [compactI]
    · simp [compactI, h]
  | b :: l, a, x => by
    have ih := compactI_snoc l b x
    show compactI (a :: b :: (l ++ [x])) = _
    rw [compactI, show b :: (l ++ [x]) = b :: l ++ [x] from rfl, ih]
    have hl : (a :: b :: l).getLast (by simp) = (b :: l).getLast (by simp) := List.getLast_cons (by simp)
    rw [hl, compactI]
    by_cases h1 : a = b <;> by_cases h2 : (b :: l).getLast (by simp) = x <;> simp [h1, h2]
theorem compactI_take (l : List Int) (j : Nat) (h1 : 1 ≤ j) (hj : j < l.length) : compactI (l.take (j + 1)) = if l[j - 1] = l[j] then compactI (l.take j) else compactI (l.take j) ++ [l[j]] := by
  rw [List.take_succ_eq_append_getElem hj]
  have hne : l.take j ≠ [] := by intro e; have := congrArg List.length e; rw [List.length_take, List.length_nil] at this; omega
  obtain ⟨a, t, ht⟩ := List.exists_cons_of_ne_nil hne
  have hlast : (l.take j).getLast hne = l[j - 1] := by
    rw [List.getLast_eq_getElem, List.getElem_take]
    congr 1
    simp; omega
  rw [ht, compactI_snoc]
  have : (a :: t).getLast (by simp) = l[j - 1] := by rw [← hlast]; congr 1; exact ht.symm
  rw [this]
theorem compactI_next (l : List Int) (j : Nat) (h1 : 1 ≤ j) (hj : j < l.length) : compactI (l.take (j + 1)) = if ati l (j - 1) = ati l j then compactI (l.take j) else compactI (l.take j) ++ [ati l j] := by
  rw [compactI_take l j h1 hj, ← ati_eq l j hj, ← ati_eq l (j - 1) (by omega)]
theorem compactI_one (l : List Int) (h : 1 ≤ l.length) : compactI (l.take 1) = l.take 1 := by
  cases l with
  | nil => simp at h
  | cons a t => rfl
theorem mem_compact_sort (x : Int) (l : List Int) : x ∈ compactI (sortI l) ↔ x ∈ l := by rw [mem_compactI, mem_sortI]
theorem compact_sort_rises (l : List Int) : (compactI (sortI l)).Pairwise (· < ·) := compactI_rises _ (sortI_rises l)
end Go.Abs
end
