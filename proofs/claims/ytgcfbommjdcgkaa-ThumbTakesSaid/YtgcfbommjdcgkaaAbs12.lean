/-
  A region's run in the order of its text, and what was checked of it.
-/
import Derived.Test.YtgcfbommjdcgkaaAbs11
set_option linter.unusedSimpArgs false
set_option linter.unusedVariables false
namespace Go.Abs

theorem withChk_some {α : Type} {r : α} : ∀ {ps : List Prop} {x : Option α}, withChk ps x = some r → (∀ p, p ∈ ps → p) ∧ x = some r
  | [], x, h => ⟨by simp, h⟩
  | p :: ps, x, h => by
    unfold withChk at h
    split at h <;> try (cases h; done)
    rename_i hp
    obtain ⟨h1, h2⟩ := withChk_some h
    exact ⟨fun q hq => (List.mem_cons.1 hq).elim (fun e => e ▸ hp) (h1 q), h2⟩

/-- i stands ahead of j. -/
def Bf (ops : Array Oper) (i j : Nat) : Prop := ((Region.before ops).getD j 0).testBit i = true

theorem rowOk_spec {C : Tab} {ops : Array Oper} {B : Nat} {y : Oper} : ∀ (xs : List Oper) (i0 : Nat), rowOk C ops B y i0 xs = true → ∀ k x, xs[k]? = some x → B.testBit (i0 + k) = true ∨ pairOk C ops x y = true
  | [], _, _, k, x, hk => by simp at hk
  | z :: zs, i0, h, k, x, hk => by
    simp only [rowOk, Bool.and_eq_true, Bool.or_eq_true] at h
    cases k with
    | zero => simp at hk; subst hk; exact h.1
    | succ k =>
      have := rowOk_spec zs (i0 + 1) h.2 k x (by simpa using hk)
      rwa [show i0 + 1 + k = i0 + (k + 1) by omega] at this

theorem bitOk_spec {Bs : Array Nat} {j : Nat} {y : Oper} : ∀ (xs : List Oper) (i0 : Nat), bitOk Bs j y i0 xs = true → ∀ k, k < xs.length → (Bs.getD j 0).testBit (i0 + k) = true →
    i0 + k < j ∧ ∃ e, e ∈ y.after.toList ∧ Region.binds .any e = true ∧ (e.on = i0 + k ∨ (Bs.getD e.on 0).testBit (i0 + k) = true)
  | [], _, _, k, hk, _ => by simp at hk
  | z :: zs, i0, h, k, hk, hb => by
    simp only [bitOk, Bool.and_eq_true, Bool.or_eq_true] at h
    cases k with
    | zero =>
      rcases h.1 with h1 | h1
      · rw [Nat.add_zero] at hb; rw [hb] at h1; simp at h1
      · refine ⟨by simpa using h1.1, ?_⟩
        obtain ⟨e, he, h2⟩ := List.any_eq_true.1 h1.2
        simp only [Bool.and_eq_true, Bool.or_eq_true, beq_iff_eq] at h2
        exact ⟨e, he, h2.1, h2.2⟩
    | succ k =>
      have := bitOk_spec zs (i0 + 1) h.2 k (by simpa using hk) (by rwa [show i0 + 1 + k = i0 + (k + 1) by omega])
      rwa [show i0 + 1 + k = i0 + (k + 1) by omega] at this

theorem regGo_spec {C : Tab} {ops : Array Oper} {Bs : Array Nat} : ∀ (ys : List Oper) (j0 : Nat), regGo C ops Bs j0 ys = true → ∀ k y, ys[k]? = some y →
    rowOk C ops (Bs.getD (j0 + k) 0) y 0 (ops.toList.take (j0 + k)) = true ∧ bitOk Bs (j0 + k) y 0 ops.toList = true ∧ ∀ e, e ∈ y.after.toList → Region.binds .any e = true → e.on < j0 + k
  | [], _, _, k, y, hk => by simp at hk
  | z :: zs, j0, h, k, y, hk => by
    simp only [regGo, Bool.and_eq_true] at h
    cases k with
    | zero =>
      simp at hk; subst hk
      refine ⟨h.1.1.1.1, h.1.1.1.2, fun e he hb => ?_⟩
      have := List.all_eq_true.1 h.1.1.2 e he
      simp only [Bool.or_eq_true, Bool.not_eq_true', decide_eq_true_eq] at this
      rcases this with h | h
      · rw [hb] at h; cases h
      · exact h
    | succ k =>
      have := regGo_spec zs (j0 + 1) h.2 k y (by simpa using hk)
      rwa [show j0 + 1 + k = j0 + (k + 1) by omega] at this

section
variable {C : Tab} {ops : Array Oper}

theorem reg_lt (h : regOk C ops = true) {i j : Nat} {o o' : Oper} (hi : ops[i]? = some o) (hj : ops[j]? = some o') (hb : Bf ops i j) : i < j := by
  obtain ⟨_, h2, _⟩ := regGo_spec _ 0 h j o' (by simpa using hj)
  have hlt : i < ops.toList.length := by simpa using (Array.getElem?_eq_some_iff.1 hi).1
  have := (bitOk_spec _ 0 h2 i hlt (by simpa [Bf] using hb)).1
  omega

theorem reg_via (h : regOk C ops = true) {i j : Nat} {o o' : Oper} (hi : ops[i]? = some o) (hj : ops[j]? = some o') (hb : Bf ops i j) :
    ∃ e, e ∈ o'.after.toList ∧ Region.binds .any e = true ∧ (e.on = i ∨ Bf ops i e.on) := by
  obtain ⟨_, h2, _⟩ := regGo_spec _ 0 h j o' (by simpa using hj)
  have hlt : i < ops.toList.length := by simpa using (Array.getElem?_eq_some_iff.1 hi).1
  have := (bitOk_spec _ 0 h2 i hlt (by simpa [Bf] using hb)).2
  simpa [Bf] using this

theorem reg_edge (h : regOk C ops = true) {j : Nat} {o : Oper} (hj : ops[j]? = some o) {e : Edge} (he : e ∈ o.after.toList) (hb : Region.binds .any e = true) : e.on < j := by
  obtain ⟨_, _, h3⟩ := regGo_spec _ 0 h j o (by simpa using hj)
  simpa using h3 e he hb

theorem reg_pair (h : regOk C ops = true) {i j : Nat} {o o' : Oper} (hi : ops[i]? = some o) (hj : ops[j]? = some o') (hij : i < j) : Bf ops i j ∨ pairOk C ops o o' = true := by
  obtain ⟨h1, _, _⟩ := regGo_spec _ 0 h j o' (by simpa using hj)
  have := rowOk_spec _ 0 h1 i o (by rw [List.getElem?_take]; simp [hij, hi])
  simpa [Bf] using this

theorem pairsOf_mem {Bs : Array Nat} {j : Nat} : ∀ (xs : List Oper) (i0 k : Nat) (x : Oper), xs[k]? = some x → (Bs.getD j 0).testBit (i0 + k) = false → (Bs.getD (i0 + k) 0).testBit j = false → (clsOf C x.op).isW = true →
    (j, i0 + k) ∈ pairsOf C Bs j i0 xs
  | [], _, k, x, hk, _, _, _ => by simp at hk
  | z :: zs, i0, k, x, hk, h1, h2, h3 => by
    cases k with
    | zero =>
      simp at hk; subst hk
      unfold pairsOf
      rw [Nat.add_zero] at h1 h2
      rw [h1, h2, h3]
      simp
    | succ k =>
      have := pairsOf_mem zs (i0 + 1) k x (by simpa using hk) (by rwa [show i0 + 1 + k = i0 + (k + 1) by omega]) (by rwa [show i0 + 1 + k = i0 + (k + 1) by omega]) h3
      rw [show i0 + 1 + k = i0 + (k + 1) by omega] at this
      unfold pairsOf
      repeat' split
      all_goals first | exact this | exact List.mem_cons_of_mem _ this

theorem lwGo_mem {Bs : Array Nat} : ∀ (ys : List Oper) (j0 k : Nat) (y : Oper) (i : Nat) (x : Oper), ys[k]? = some y → clsOf C y.op = .l → ops[i]? = some x → (Bs.getD (j0 + k) 0).testBit i = false → (Bs.getD i 0).testBit (j0 + k) = false →
    (clsOf C x.op).isW = true → (j0 + k, i) ∈ lwGo C ops Bs j0 ys
  | [], _, k, y, _, _, hk, _, _, _, _, _ => by simp at hk
  | z :: zs, j0, k, y, i, x, hk, hy, hx, h1, h2, h3 => by
    unfold lwGo
    cases k with
    | zero =>
      simp at hk; subst hk
      rw [hy]
      refine List.mem_append_left _ ?_
      have := pairsOf_mem (C := C) (Bs := Bs) (j := j0) ops.toList 0 i x (by simpa using hx) (by simpa using h1) (by simpa using h2) h3
      simpa using this
    | succ k =>
      refine List.mem_append_right _ ?_
      have := lwGo_mem zs (j0 + 1) k y i x (by simpa using hk) hy hx (by rwa [show j0 + 1 + k = j0 + (k + 1) by omega]) (by rwa [show j0 + 1 + k = j0 + (k + 1) by omega]) h3
      rwa [show j0 + 1 + k = j0 + (k + 1) by omega] at this

theorem lw_mem {i j : Nat} {x y : Oper} (hj : ops[j]? = some y) (hi : ops[i]? = some x) (hy : clsOf C y.op = .l) (hx : (clsOf C x.op).isW = true) (h1 : ¬ Bf ops i j) (h2 : ¬ Bf ops j i) : (j, i) ∈ lwPairs C ops := by
  have := lwGo_mem (C := C) (ops := ops) (Bs := Region.before ops) ops.toList 0 j y i x (by simpa using hj) hy hi (by simpa [Bf] using h1) (by simpa [Bf] using h2) hx
  simpa [lwPairs] using this
end

section
variable {P : Program} {C : Tab} {ops : Array Oper} {l : List Nat}

theorem adrawGo_tr : ∀ (rest : List Oper) (fr : AFr) (H : AHeap) (hist : List (AFr × AHeap)) (r : AFr × AHeap), adrawGo P C ops l rest fr H hist = some r →
    ∃ more : List (AFr × AHeap), more.length = rest.length ∧ (∀ q, q ∈ lwPairs C ops → chk P ops (hist.reverse ++ (fr, H) :: more) q) ∧
      (∃ frn, (hist.reverse ++ (fr, H) :: more)[hist.length + rest.length]? = some (frn, r.2) ∧ r.1 = frn.only l) ∧
      ∀ j o, rest[j]? = some o → ∃ frj Hj z H1, (hist.reverse ++ (fr, H) :: more)[hist.length + j]? = some (frj, Hj) ∧ dstep P C ops frj Hj o = some (z, H1) ∧ (hist.reverse ++ (fr, H) :: more)[hist.length + j + 1]? = some (frj.put o.dst z, H1)
  | [], fr, H, hist, r, h => by
    simp only [adrawGo] at h
    obtain ⟨h1, h2⟩ := withChk_some h
    simp only [Option.some.injEq] at h2
    subst h2
    refine ⟨[], rfl, fun q hq => ?_, ⟨fr, ?_, rfl⟩, fun j o hj => by simp at hj⟩
    · have := h1 _ (List.mem_map_of_mem hq)
      simpa using this
    · rw [List.getElem?_append_right (by simp)]
      simp
  | o :: rest, fr, H, hist, r, h => by
    simp only [adrawGo, op] at h
    split at h <;> try (cases h; done)
    rename_i v H' hs
    obtain ⟨more, h1, h2, ⟨frn, h3, h3'⟩, h4⟩ := adrawGo_tr rest _ _ _ r h
    have e : ((fr, H) :: hist).reverse ++ (fr.put o.dst v, H') :: more = hist.reverse ++ (fr, H) :: (fr.put o.dst v, H') :: more := by simp
    rw [e] at h2 h3 h4
    refine ⟨(fr.put o.dst v, H') :: more, by simp [h1], h2, ⟨frn, ?_, h3'⟩, fun j o' hj => ?_⟩
    · rw [← h3]; congr 1; simp; omega
    · cases j with
      | zero =>
        simp at hj; subst hj
        refine ⟨fr, H, v, H', ?_, hs, ?_⟩
        · rw [List.getElem?_append_right (by simp)]; simp
        · rw [List.getElem?_append_right (by simp)]; simp
      | succ j =>
        obtain ⟨frj, Hj, z, H1, q1, q2, q3⟩ := h4 j o' (by simpa using hj)
        refine ⟨frj, Hj, z, H1, ?_, q2, ?_⟩
        · rw [← q1]; congr 1; simp; omega
        · rw [← q3]; congr 1; simp; omega

/-- The run. -/
structure Run (P : Program) (C : Tab) (ops : Array Oper) (frs : Nat → AFr) (hs : Nat → AHeap) : Prop where
  reg : regOk C ops = true
  step : ∀ i o, ops[i]? = some o → ∃ z, dstep P C ops (frs i) (hs i) o = some (z, hs (i + 1)) ∧ frs (i + 1) = (frs i).put o.dst z
  chk : ∀ i k o o' t a, ops[i]? = some o → ops[k]? = some o' → o.op = .load t a → (clsOf C o'.op).isW = true → ¬ Bf ops k i → ¬ Bf ops i k → aload P t ((frs i).eval a) (hs k) = aload P t ((frs i).eval a) (hs (k + 1))
  wf0 : ∀ b x, (hs 0).get b = some x → b < (hs 0).next

theorem adraw_run {fr : AFr} {H : AHeap} {r : AFr × AHeap} (h : adraw P C ops l fr H = some r) (hwf : ∀ b x, H.get b = some x → b < H.next) :
    ∃ frs hs, Run P C ops frs hs ∧ frs 0 = fr ∧ hs 0 = H ∧ r.1 = (frs ops.size).only l ∧ r.2 = hs ops.size := by
  unfold adraw at h
  split at h <;> try (cases h; done)
  rename_i hreg
  obtain ⟨more, h1, h2, ⟨frn, h3, h3'⟩, h4⟩ := adrawGo_tr ops.toList fr H [] r h
  simp only [List.reverse_nil, List.nil_append, List.length_nil, Nat.zero_add] at h2 h3 h4
  have h0 : ((fr, H) :: more)[0]? = some (fr, H) := rfl
  generalize htr : (fr, H) :: more = tr at h2 h3 h4 h0
  refine ⟨fun i => ((tr[i]?).getD (fr, H)).1, fun i => ((tr[i]?).getD (fr, H)).2, ⟨hreg, fun i o hi => ?_, fun i k o o' t a hi hk ho hw b1 b2 => ?_, ?_⟩, by simp [h0], by simp [h0], ?_, ?_⟩
  · obtain ⟨frj, Hj, z, H1, q1, q2, q3⟩ := h4 i o (by simpa using hi)
    refine ⟨z, ?_, ?_⟩
    · simp only [q1, q3, Option.getD_some]; exact q2
    · simp only [q1, q3, Option.getD_some]
  · have := h2 _ (lw_mem (C := C) hi hk (by rw [ho]; rfl) hw b1 b2)
    unfold Abs.chk at this
    simp only [hi, ho, Option.map_some] at this
    split at this <;> try (exact this.elim)
    rename_i ht p1 p2 p3
    simp only [Option.some.injEq, Op.load.injEq] at ht
    obtain ⟨rfl, rfl⟩ := ht
    simpa [p1, p2, p3] using this
  · simpa [h0] using hwf
  · simp only [Array.length_toList] at h3
    simp [h3, h3']
  · simp only [Array.length_toList] at h3
    simp [h3]
end
end Go.Abs
