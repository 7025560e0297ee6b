/-
  New blocks; slices that grow.
-/
import Derived.Test.YtgcfbommjdcgkaaAbs3
set_option linter.unusedSimpArgs false
set_option linter.unusedVariables false
namespace Go.Abs

/-- What a step leaves: the world, what is known of it, a value. -/
structure After (w : World) (F A : Nat → Prop) (m : Nat → Nat) (H : AHeap) (A' : Nat → Prop) (H' : AHeap) (z : AV) (r : Value) (w' : World) : Prop where
  ex : ∃ F' m', Inv w' F' A' m' H' ∧ RV w' F' A' m' z r ∧ Evo w F A m H w' F' A' m' H'

section
variable {P : Program} {w : World} {F A : Nat → Prop} {m : Nat → Nat} {H : AHeap}

def withB (A : Nat → Prop) (b : Nat) : Nat → Prop := fun x => A x ∨ x = b
def withM (m : Nat → Nat) (b g : Nat) : Nat → Nat := fun x => if x = b then g else m x

theorem alloc_mono {o : Obj} {a : AV} {v : Value} (I : Inv w F A m H) (hn : ¬ A H.next) (h : RV w F A m a v) :
    RV (w.alloc o) (withB F w.heap.size) (withB A H.next) (withM m H.next w.heap.size) a v :=
  h.mono (by simp) (fun cb hcb => shape?_of_heap (heap_alloc_old w o cb hcb)) (fun cb hcb _ => heap_alloc_old w o cb hcb)
    (fun cb hcb hF => by rcases hF with h | h; exact h; omega)
    (fun b hb => ⟨.inl hb, by unfold withM; rw [if_neg (fun e : b = H.next => hn (e ▸ hb))]⟩)

/-- A new block. -/
theorem alloc_sound {blk : Blk} {c : Array Value} (I : Inv w F A m H) (hn : ¬ A H.next) (hr : RRows w F A m blk c) :
    Inv (w.alloc (.cells c blk.e)) (withB F w.heap.size) (withB A H.next) (withM m H.next w.heap.size) (H.push blk) ∧
    Evo w F A m H (w.alloc (.cells c blk.e)) (withB F w.heap.size) (withB A H.next) (withM m H.next w.heap.size) (H.push blk) := by
  have hnew := heap_alloc_new w (.cells c blk.e)
  have hold : ∀ k, k < w.heap.size → (w.alloc (.cells c blk.e)).heap[k]? = w.heap[k]? := fun k hk => heap_alloc_old w _ k hk
  have hnone : H.get H.next = none := by
    cases h : H.get H.next with
    | none => rfl
    | some x => exact absurd (I.own _ _ h).1 hn
  have hlt : ∀ b x, H.get b = some x → m b < w.heap.size ∧ b ≠ H.next := fun b x hb =>
    ⟨I.bound _ (I.own b x hb).2, fun e => by subst e; rw [hnone] at hb; cases hb⟩
  have hm : ∀ b, b ≠ H.next → withM m H.next w.heap.size b = m b := fun b hb => if_neg hb
  refine ⟨⟨?_, ?_, ?_, ?_⟩, ⟨rfl, rfl, rfl, by simp, fun cb hcb => shape?_of_heap (hold cb hcb), fun cb hcb _ => hold cb hcb, ?_, fun _ _ h _ => .inl h, fun b hb => ⟨.inl hb, hm b fun e => hn (e ▸ hb)⟩, ?_⟩⟩
  · intro b x hb
    rw [AHeap.get_push] at hb
    split at hb
    · rename_i e; exact ⟨.inr e, .inr (by simp [withM, e])⟩
    · rename_i e; rw [hm b e]; exact ⟨.inl (I.own b x hb).1, .inl (I.own b x hb).2⟩
  · intro b x hb
    rw [AHeap.get_push] at hb
    split at hb
    · rename_i e
      simp only [Option.some.injEq] at hb
      subst hb e
      refine ⟨c, by simpa [withM] using hnew, hr.fits, hr.wide, hr.flat, fun i row j a h1 h2 => ?_⟩
      obtain ⟨v, q1, q2, q3⟩ := hr.cell i row j a h1 h2
      exact ⟨v, q1, q2, alloc_mono I hn q3⟩
    · rename_i e
      obtain ⟨c2, h2, hr2⟩ := I.blk b x hb
      refine ⟨c2, by rw [hm b e, hold _ (hlt b x hb).1]; exact h2, hr2.fits, hr2.wide, hr2.flat, fun i row j a h1 h2 => ?_⟩
      obtain ⟨v, q1, q2, q3⟩ := hr2.cell i row j a h1 h2
      exact ⟨v, q1, q2, alloc_mono I hn q3⟩
  · intro b1 b2 x y h1 h2 he
    rw [AHeap.get_push] at h1 h2
    split at h1
    · rename_i e1
      split at h2
      · rename_i e2; rw [e1, e2]
      · rename_i e2
        rw [hm b2 e2, e1] at he
        simp only [withM, if_true] at he
        have := (hlt b2 y h2).1
        omega
    · rename_i e1
      split at h2
      · rename_i e2
        rw [hm b1 e1, e2] at he
        simp only [withM, if_true] at he
        have := (hlt b1 x h1).1
        omega
      · rename_i e2
        rw [hm b1 e1, hm b2 e2] at he
        exact I.inj _ _ _ _ h1 h2 he
  · intro cb hcb
    rcases hcb with h | h
    · have := I.bound cb h; simp; omega
    · simp; omega
  · intro cb hcb
    rcases hcb with h | h
    · exact .inl h
    · exact .inr (by omega)
  · intro b x hb
    rw [AHeap.get_push] at hb
    split at hb
    · rename_i e; exact .inr (by simp [withM, e])
    · rename_i e; exact .inl ⟨b, x, hb, (hm b e).symm⟩

theorem abox_sound {e : TypeId} {x z : AV} {u : Value} {H' : AHeap} (h : abox e x H = some (z, H')) (I : Inv w F A m H) (hn : ¬ A H.next) (hx : RV w F A m x u) :
    ∃ r w', (Instr.box e u).run P w = .ok r w' ∧ After w F A m H (withB A H.next) H' z r w' := by
  unfold abox at h
  split at h <;> try (cases h; done)
  rename_i cs hcs
  split at h <;> try (cases h; done)
  rename_i hall
  simp only [Option.some.injEq, Prod.mk.injEq] at h
  obtain ⟨rfl, rfl⟩ := h
  have hcv := cells_sound hcs hx
  have hsz : u.cells.size = cs.length := by simpa using hcv.1.symm
  obtain ⟨q1, q2⟩ := alloc_sound (blk := { e, sz := cs.length, flat := cs.all AV.flat, rows := [cs] }) (c := u.cells) I hn
    ⟨by simp [hsz], by simp, fun hff row hrow a ha => by
      simp at hrow; subst hrow
      exact List.all_eq_true.1 hff a ha, fun i row j a h1 h2 => by
      cases i with
      | zero =>
        simp at h1
        subst h1
        have hj : j < u.cells.size := by rw [hsz]; exact (List.getElem?_eq_some_iff.1 h2).1
        have hmem : a ∈ cs := List.mem_of_getElem? h2
        have hrv := hcv.2 j a u.cells[j] h2 (by simp [hj])
        exact ⟨u.cells[j], by simp [hj], isCell_one (List.all_eq_true.1 hall _ hmem) hrv, hrv⟩
      | succ i => simp at h1⟩
  refine ⟨.pointer (some ⟨w.heap.size, 0, none⟩), w.alloc (.cells u.cells e), rfl, ⟨_, _, q1, ?_, q2⟩⟩
  have := RV.ptr (w := w.alloc (.cells u.cells e)) (F := withB F w.heap.size) (A := withB A H.next) (m := withM m H.next w.heap.size) H.next cs.length 0 0 (.inr rfl)
  simpa [withM] using this

theorem aalloc_sound {e : TypeId} {z : AV} {H' : AHeap} (h : aalloc P e H = some (z, H')) (I : Inv w F A m H) (hn : ¬ A H.next) :
    ∃ r w', (Instr.alloc e true (.tuple #[])).run P w = .ok r w' ∧ After w F A m H (withB A H.next) H' z r w' := by
  rw [aalloc_old] at h
  split at h <;> try (cases h; done)
  rename_i i hi
  split at h <;> try (cases h; done)
  rename_i zv hz
  obtain ⟨r, w', h1, h2⟩ := abox_sound (P := P) h I hn (rv_ofConst zv)
  refine ⟨r, w', ?_, h2⟩
  simp only [Instr.box, Sem.run_bind] at h1
  simp only [Instr.alloc, Sem.run_bind, zeroValue, typeInfo, run_program, Result.andThen_ok, hi, hz, Sem.run_pure]
  exact h1

/-- A slice over a new block. -/
theorem new_slice {blk : Blk} {c : Array Value} {len cap : Nat} (I : Inv w F A m H) (hn : ¬ A H.next) (hr : RRows w F A m blk c) (hl : len ≤ cap) (hm : cap ≤ maxLen) (hc : c.size = cap * blk.sz) :
    After w F A m H (withB A H.next) (H.push blk) (.sl H.next blk.sz 0 len) (.slice (some ⟨w.heap.size, 0, none⟩) len cap) (w.alloc (.cells c blk.e)) := by
  obtain ⟨q1, q2⟩ := alloc_sound I hn hr
  refine ⟨_, _, q1, ?_, q2⟩
  have := RV.sl (w := w.alloc (.cells c blk.e)) (F := withB F w.heap.size) (A := withB A H.next) (m := withM m H.next w.heap.size) H.next blk.sz 0 len cap blk.e (.inr rfl) hl hm
    (by simp only [withM, if_true]; rw [shape_of_cells (heap_alloc_new w _), hc]; simp)
  simpa [withM] using this

theorem length_reps (zero : List AV) : ∀ n, (reps zero n).length = n * zero.length
  | 0 => by simp [reps]
  | n + 1 => by simp [reps, length_reps zero n, Nat.add_mul, Nat.add_comm]

theorem getElem?_reps (zero : List AV) (hz : 0 < zero.length) : ∀ (n i : Nat), i < n * zero.length → (reps zero n)[i]? = zero[i % zero.length]?
  | 0, i, h => by simp at h
  | n + 1, i, h => by
    simp only [reps, List.getElem?_append]
    by_cases hi : i < zero.length
    · rw [if_pos hi, Nat.mod_eq_of_lt hi]
    · rw [if_neg hi, getElem?_reps zero hz n (i - zero.length) (by rw [Nat.add_mul] at h; omega)]
      congr 1
      rw [Nat.mod_eq_sub_mod (by omega : i ≥ zero.length)]

theorem length_chunks (sz : Nat) : ∀ (n : Nat) (cs : List AV), (chunks sz n cs).length = n
  | 0, _ => rfl
  | n + 1, cs => by simp [chunks, length_chunks sz n]

theorem getElem?_chunks (sz : Nat) : ∀ (n : Nat) (cs : List AV) (i : Nat), i < n → (chunks sz n cs)[i]? = some ((cs.drop (i * sz)).take sz)
  | 0, _, _, h => by omega
  | n + 1, cs, 0, _ => by simp [chunks]
  | n + 1, cs, i + 1, h => by
    simp only [chunks, List.getElem?_cons_succ]
    rw [getElem?_chunks sz n _ i (by omega), List.drop_drop]
    congr 3
    rw [Nat.add_mul, Nat.one_mul, Nat.add_comm]

theorem chunks_rows {e sz n : Nat} {cs : List AV} {c : Array Value} (hl : cs.length = n * sz) (hall : cs.all AV.isCell = true) (hc : RL w F A m cs c.toList) :
    RRows w F A m { e, sz, flat := cs.all AV.flat, rows := chunks sz n cs } c := by
  have hcs : c.size = n * sz := by have := hc.1; simp at this; omega
  have hi : ∀ (i : Nat) (row : List AV), (chunks sz n cs)[i]? = some row → i < n ∧ row = (cs.drop (i * sz)).take sz := fun i row h => by
    have := (List.getElem?_eq_some_iff.1 h).1
    rw [length_chunks] at this
    rw [getElem?_chunks sz n cs i this] at h
    exact ⟨this, by simpa using h.symm⟩
  have hle : ∀ i, i < n → i * sz + sz ≤ n * sz := fun i h => by
    have := Nat.mul_le_mul_right sz (show i + 1 ≤ n from h)
    rwa [Nat.add_mul, Nat.one_mul] at this
  refine ⟨by simp [length_chunks, hcs], fun row hrow => ?_, fun hff row hrow a ha => ?_, fun i row j a h1 h2 => ?_⟩
  · obtain ⟨i, h⟩ := List.mem_iff_getElem?.1 hrow
    obtain ⟨h1, rfl⟩ := hi i row h
    have := hle i h1
    simp; omega
  · obtain ⟨i, h⟩ := List.mem_iff_getElem?.1 hrow
    obtain ⟨h1, rfl⟩ := hi i row h
    exact List.all_eq_true.1 hff a (List.mem_of_mem_drop (List.mem_of_mem_take ha))
  · obtain ⟨h3, rfl⟩ := hi i row h1
    rw [List.getElem?_take] at h2
    split at h2
    · rename_i hj
      rw [List.getElem?_drop] at h2
      have := hle i h3
      have hlt : i * sz + j < c.size := by omega
      have hrv := hc.2 (i * sz + j) a c[i * sz + j] h2 (by simp [hlt])
      exact ⟨c[i * sz + j], by simp [hlt], isCell_one (List.all_eq_true.1 hall _ (List.mem_of_getElem? h2)) hrv, hrv⟩
    · cases h2

theorem length_afill (place : Nat → Option (Nat × Nat)) : ∀ (parts : List (Nat × AV)) (cs out : List AV), afill place cs parts = some out → out.length = cs.length
  | [], cs, out, h => by simp only [afill, Option.some.injEq] at h; rw [← h]
  | (i, x) :: rest, cs, out, h => by
    simp only [afill] at h
    split at h
    · split at h
      · cases h
      · rw [length_afill place rest _ out h]
        have key : ∀ (l : List (AV × Nat)) (off : Nat) (cs : List AV), (l.foldl (fun (l : List AV) (p : AV × Nat) => l.set (off + p.2) p.1) cs).length = cs.length := by
          intro l off
          induction l with
          | nil => intro cs; rfl
          | cons p l ih => intro cs; simp only [List.foldl_cons, ih, List.length_set]
        exact key _ _ _
    · cases h

theorem abuildSlice_sound {t : TypeId} {len : Nat} {parts : List (Nat × AV)} {parts' : Array (Nat × Value)} {z : AV} {H' : AHeap} (h : abuildSlice P t len parts H = some (z, H')) (I : Inv w F A m H) (hn : ¬ A H.next)
    (hl : parts.length = parts'.size) (hp : ∀ (i : Nat) (p : Nat × AV) (q : Nat × Value), parts[i]? = some p → parts'[i]? = some q → p.1 = q.1 ∧ RV w F A m p.2 q.2) :
    ∃ r w', (Instr.buildSlice t len parts').run P w = .ok r w' ∧ After w F A m H (withB A H.next) H' z r w' := by
  unfold abuildSlice abuildSliceR at h
  split at h <;> try (cases h; done)
  rename_i k hk
  obtain ⟨i, zv, hu, hi, hz, hsz, hpos, k1, k2, k3⟩ := ekOf_some hk
  obtain ⟨e, ksz, kby, kz⟩ := k
  simp only at hu hi k1 k2 k3 h
  subst k1 k2 k3
  split at h <;> try (cases h; done)
  rename_i hbig
  split at h <;> try (cases h; done)
  rename_i cs hf
  split at h <;> try (cases h; done)
  rename_i hall
  simp only [Option.some.injEq, Prod.mk.injEq] at h
  obtain ⟨rfl, rfl⟩ := h
  have hzl : (zv.cells.toList.map ofCell).length = i.size := by simpa using hsz
  have hcl := length_afill _ _ _ _ hf
  rw [length_reps, hzl] at hcl
  have hbase : RL w F A m (reps (zv.cells.toList.map ofCell) len) ((Array.range (len * i.size)).map (zv.cells[· % zv.cells.size]!)).toList := by
    refine ⟨by simp [length_reps, hsz], fun k a v h1 h2 => ?_⟩
    have hk : k < len * i.size := by
      have := (List.getElem?_eq_some_iff.1 h1).1
      rwa [length_reps, hzl] at this
    rw [getElem?_reps _ (by rw [hzl]; exact hpos) len k (by rw [hzl]; exact hk), hzl] at h1
    have hmod : k % i.size < zv.cells.size := by rw [hsz]; exact Nat.mod_lt _ hpos
    have hv : v = zv.cells[k % i.size] := by
      simp [hk, hsz] at h2
      rw [← h2]
      rw [getElem!_pos zv.cells (k % i.size) hmod]
    rw [hv]
    exact rv_list_ofCell zv.cells (k % i.size) a _ h1 (by simp [hmod])
  obtain ⟨out', ho, hr⟩ := afill_sound (w := w) (F := F) (A := A) (m := m) _ parts parts'.toList _ ((Array.range (len * i.size)).map (zv.cells[· % zv.cells.size]!)) cs hf (by simpa using hl)
    (fun i p q h1 h2 => hp i p q h1 (by simpa using h2)) hbase
  have hos : out'.size = len * i.size := by have := hr.1; simp at this; omega
  have hbig' : ¬ (len * i.size > 2 ^ 24) := by omega
  have hrun : (Instr.buildSlice t len parts').run P w = .ok (.slice (some ⟨w.heap.size, 0, none⟩) len len) (w.alloc (.cells out' e)) := by
    have hsize : (sizeOf e).run P w = .ok i.size w := by simp [sizeOf, typeInfo, hi]
    unfold Instr.buildSlice
    by_cases h0 : len * i.size = 0
    · have e0 : ∀ f : Nat → Value, (Array.range (len * i.size)).map f = #[] := fun f => by rw [h0]; simp
      rw [e0] at ho
      simp only [Sem.run_bind, run_underlying hu, Result.andThen_ok, hsize, if_neg hbig', if_pos h0, Sem.run_pure, e0, ho]
      rfl
    · have hzv : (zeroValue e).run P w = .ok zv w := by simp [zeroValue, typeInfo, hi, hz]
      simp only [Sem.run_bind, run_underlying hu, Result.andThen_ok, hsize, if_neg hbig', if_neg h0, hzv, Sem.run_pure, ho]
      rfl
  have hmax : len ≤ maxLen := by
    have : len ≤ len * i.size := Nat.le_mul_of_pos_right _ hpos
    simp only [maxLen]; omega
  exact ⟨_, _, hrun, new_slice (blk := { e, sz := i.size, flat := cs.all AV.flat, rows := chunks i.size len cs }) I hn (chunks_rows hcl hall hr) (Nat.le_refl _) hmax hos⟩

theorem amake_sound {t : TypeId} {l c z : AV} {u v : Value} {H' : AHeap} (h : amake P t l c H = some (z, H')) (I : Inv w F A m H) (hn : ¬ A H.next) (hl : RV w F A m l u) (hc : RV w F A m c v) :
    ∃ r w', (Instr.makeSlice t u v).run P w = .ok r w' ∧ After w F A m H (withB A H.next) H' z r w' := by
  unfold amake amakeR at h
  split at h <;> try (cases h; done)
  rename_i kk kl n kc k hkk
  cases hl; cases hc
  obtain ⟨i, zv, hu, hi, hz, hsz, hpos, k1, k2, k3⟩ := ekOf_some hkk
  obtain ⟨e, ksz, kby, kz⟩ := kk
  simp only at hu hi k1 k2 k3 h
  subst k1 k2 k3
  split at h <;> try (cases h; done)
  rename_i hok
  obtain ⟨h0, hnk, hby, hbp, hall⟩ := hok
  simp only [Option.some.injEq, Prod.mk.injEq] at h
  obtain ⟨rfl, rfl⟩ := h
  have hk : k ≤ 140737488355328 := by
    have h1 : k ≤ (i.bytes : Int) * k := by
      have : (1 : Int) * k ≤ (i.bytes : Int) * k := Int.mul_le_mul_of_nonneg_right (by omega) (by omega)
      omega
    omega
  have hrun := run_make (P := P) w t e i zv hu hi hz kl kc n k h0 hnk (by omega) (by omega)
  refine ⟨_, _, hrun, new_slice (blk := { e, sz := i.size, flat := (zv.cells.toList.map ofCell).all AV.flat, rows := List.replicate n.toNat (zv.cells.toList.map ofCell) }) I hn ⟨?_, ?_, ?_, ?_⟩ (by omega) (by simp only [maxLen]; omega) (by simp [size_madeCells])⟩
  · simp only [List.length_replicate, size_madeCells]
    exact Nat.mul_le_mul_right _ (by omega)
  · intro row hrow
    rw [List.eq_of_mem_replicate hrow]
    simpa using hsz
  · intro hff row hrow a ha
    rw [List.eq_of_mem_replicate hrow] at ha
    exact List.all_eq_true.1 hff a ha
  · intro q row j a h1 h2
    have hq : q < n.toNat := by have := (List.getElem?_eq_some_iff.1 h1).1; simpa using this
    simp [List.getElem?_replicate, hq] at h1
    subst h1
    have hj : j < i.size := by have := (List.getElem?_eq_some_iff.1 h2).1; simp at this; omega
    have hlt : q * i.size + j < k.toNat * i.size := by
      have h3 : (q + 1) * i.size ≤ k.toNat * i.size := Nat.mul_le_mul_right _ (by omega)
      rw [Nat.add_mul] at h3
      omega
    have hmod : (q * i.size + j) % zv.cells.size = j := by
      rw [hsz, Nat.add_comm, Nat.add_mul_mod_self_right, Nat.mod_eq_of_lt hj]
    have hjz : j < zv.cells.size := by omega
    have hrv : RV w F A m a zv.cells[j] := rv_list_ofCell zv.cells j a _ h2 (by simp [hjz])
    refine ⟨zv.cells[j], ?_, isCell_one (List.all_eq_true.1 hall _ (List.mem_of_getElem? h2)) hrv, hrv⟩
    simp only [madeCells, Array.getElem?_map]
    rw [show (Array.range (k.toNat * i.size))[q * i.size + j]? = some (q * i.size + j) from by simp [hlt]]
    simp only [Option.map_some, hmod]
    rw [getElem!_pos zv.cells j hjz]
end
end Go.Abs
