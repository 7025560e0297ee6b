/-
  Appending.
-/
import Derived.Test.YtgcfbommjdcgkaaAbs4
set_option linter.unusedSimpArgs false
set_option linter.unusedVariables false
namespace Go.Abs
section
variable {P : Program} {w : World} {F A : Nat → Prop} {m : Nat → Nat} {H : AHeap}

/-- Rows, as a list of cells bears them. -/
structure Flat (w : World) (F A : Nat → Prop) (m : Nat → Nat) (sz : Nat) (rows : List (List AV)) (vs : List Value) : Prop where
  len : vs.length = rows.length * sz
  wide : ∀ row, row ∈ rows → row.length = sz
  one : ∀ u, u ∈ vs → u.oneCell' = true
  cell : ∀ (i : Nat) (row : List AV) (j : Nat) (a : AV), rows[i]? = some row → row[j]? = some a → ∃ v, vs[i * sz + j]? = some v ∧ RV w F A m a v

theorem row_le {n i sz : Nat} (h : i < n) : i * sz + sz ≤ n * sz := by
  have := Nat.mul_le_mul_right sz (show i + 1 ≤ n from h)
  rwa [Nat.add_mul, Nat.one_mul] at this

theorem source_sound {x : AV} {v : Value} {sz : Nat} {rows : List (List AV)} {fl : Bool} (h : rowsOf x sz H = some (rows, fl)) (I : Inv w F A m H) (hx : RV w F A m x v) (hsz : 0 < sz) :
    ∃ vs a cap, v = .slice a rows.length cap ∧ Flat w F A m sz rows vs ∧ (fl = true → flatRows rows) ∧ (a = none → rows = []) ∧ ∀ ad, a = some ad → ∀ (j : Nat) (u : Value), vs[j]? = some u → w.cell? (ad.add j) = some u := by
  unfold rowsOf at h
  split at h <;> try (cases h; done)
  · simp only [Option.some.injEq, Prod.mk.injEq] at h
    obtain ⟨rfl, rfl⟩ := h
    cases hx
    exact ⟨[], none, 0, rfl, ⟨by simp, by simp, by simp, by simp⟩, fun _ => by simp [flatRows], fun _ => rfl, (fun ad h => by cases h)⟩
  · simp only [Option.some.injEq, Prod.mk.injEq] at h
    obtain ⟨rfl, rfl⟩ := h
    cases hx with
    | esl s a cap => exact ⟨[], some a, cap, rfl, ⟨by simp, by simp, by simp, by simp⟩, fun _ => by simp [flatRows], fun _ => rfl, fun ad _ j u h => by simp at h⟩
  · rename_i s rws
    split at h <;> try (cases h; done)
    rename_i hs
    subst hs
    simp only [Option.some.injEq, Prod.mk.injEq] at h
    obtain ⟨rfl, rfl⟩ := h
    cases hx with
    | rsl0 s a cap h0 => exact ⟨[], a, cap, rfl, ⟨by simp, by simp, by simp, by simp⟩, fun _ => by simp [flatRows], fun _ => rfl, fun ad _ j u h => by simp at h⟩
    | rsl s rws cb co cap val hF hb hc hr hflr hv hrv =>
      have hidx : ∀ k, k < rws.length * s → ∃ row a, rws[k / s]? = some row ∧ row[k % s]? = some a := fun k hk => by
        have h1 : k / s < rws.length := Nat.div_lt_of_lt_mul (by rw [Nat.mul_comm]; exact hk)
        have h2 := hr _ (List.getElem_mem h1)
        have h3 : k % s < (rws[k / s]).length := by rw [h2]; exact Nat.mod_lt _ hsz
        exact ⟨rws[k / s], (rws[k / s])[k % s], by simp [h1], by simp [h3]⟩
      refine ⟨(List.range (rws.length * s)).map fun k => val (k / s) (k % s), some ⟨cb, co, none⟩, cap, rfl, ⟨by simp, hr, ?_, ?_⟩, fun _ => hflr, (fun h => by cases h), ?_⟩
      · intro u hu
        obtain ⟨k, hk, rfl⟩ := List.mem_map.1 hu
        obtain ⟨row, a, h1, h2⟩ := hidx k (by simpa using hk)
        exact (hv _ _ _ _ h1 h2).2
      · intro i row j a h1 h2
        have hi := (List.getElem?_eq_some_iff.1 h1).1
        have hj : j < s := by rw [← hr row (List.mem_of_getElem? h1)]; exact (List.getElem?_eq_some_iff.1 h2).1
        have hlt : i * s + j < rws.length * s := by have := row_le (sz := s) hi; omega
        refine ⟨val i j, ?_, hrv i row j a h1 h2⟩
        have e1 : (i * s + j) / s = i := by rw [Nat.mul_comm, Nat.mul_add_div hsz, Nat.div_eq_of_lt hj, Nat.add_zero]
        have e2 : (i * s + j) % s = j := by rw [Nat.mul_comm, Nat.mul_add_mod, Nat.mod_eq_of_lt hj]
        simp [hlt, e1, e2]
      · intro ad had j u hu
        simp only [Option.some.injEq] at had
        subst had
        have hj : j < rws.length * s := by have := (List.getElem?_eq_some_iff.1 hu).1; simpa using this
        simp [hj] at hu
        subst hu
        obtain ⟨row, a, h1, h2⟩ := hidx j hj
        have := (hv _ _ _ _ h1 h2).1
        rw [add_lit]
        rw [← this]
        congr 2
        rw [Nat.mul_comm, Nat.div_add_mod]
  · rename_i b s off len
    split at h <;> try (cases h; done)
    rename_i blk hb
    split at h <;> try (cases h; done)
    rename_i hok
    obtain ⟨hs, hs2, hfit⟩ := hok
    subst hs
    simp only [Option.some.injEq, Prod.mk.injEq] at h
    obtain ⟨rfl, rfl⟩ := h
    obtain ⟨c, hc, hr⟩ := I.blk b blk hb
    have hrl : ((blk.rows.drop off).take len).length = len := by simp; omega
    have hle : (off + len) * s ≤ c.size := by
      have h1 := hr.fits
      have h2 := Nat.mul_le_mul_right s hfit
      rw [hs2] at h1
      omega
    have hget : ∀ i, i < len → ((blk.rows.drop off).take len)[i]? = blk.rows[off + i]? := fun i hi => by
      rw [List.getElem?_take, if_pos hi, List.getElem?_drop]
    have hadd : (off + len) * s = off * s + len * s := Nat.add_mul _ _ _
    have hcell : ∀ k, k < len * s → ∃ u, ((c.toList.drop (off * s)).take (len * s))[k]? = some u ∧ c[off * s + k]? = some u := fun k hk => by
      have : off * s + k < c.size := by omega
      exact ⟨c[off * s + k], by rw [List.getElem?_take, if_pos hk, List.getElem?_drop]; simp [this], by simp [this]⟩
    have hidx : ∀ k, k < len * s → ∃ row a, blk.rows[off + k / s]? = some row ∧ row[k % s]? = some a := fun k hk => by
      have h0 : k / s < len := Nat.div_lt_of_lt_mul (by rw [Nat.mul_comm]; exact hk)
      have h1 : off + k / s < blk.rows.length := by omega
      have h2 := hr.wide _ (List.getElem_mem h1)
      have h3 : k % s < (blk.rows[off + k / s]).length := by rw [h2, hs2]; exact Nat.mod_lt _ hsz
      exact ⟨_, _, by simp [h1]; rfl, by simp [h3]; rfl⟩
    cases hx with
    | sl b s off len cap e hA hcap hm hs =>
      refine ⟨(c.toList.drop (off * s)).take (len * s), some ⟨m b, off * s, none⟩, cap, by rw [hrl], ⟨by rw [hrl]; simp; omega, ?_, ?_, ?_⟩, fun hff row hrow => hr.flat hff row (List.mem_of_mem_drop (List.mem_of_mem_take hrow)), (fun h => by cases h), ?_⟩
      · intro row hrow
        rw [← hs2]
        exact hr.wide row (List.mem_of_mem_drop (List.mem_of_mem_take hrow))
      · intro u hu
        obtain ⟨k, hk⟩ := List.mem_iff_getElem?.1 hu
        have hk2 : k < len * s := by have := (List.getElem?_eq_some_iff.1 hk).1; simp at this; omega
        obtain ⟨u', h1, h2⟩ := hcell k hk2
        rw [hk] at h1
        simp only [Option.some.injEq] at h1
        subst h1
        obtain ⟨row, a, h3, h4⟩ := hidx k hk2
        obtain ⟨v, q1, q2, _⟩ := hr.cell _ row _ a h3 h4
        have : (off + k / s) * blk.sz + k % s = off * s + k := by
          rw [hs2, Nat.add_mul, Nat.add_assoc, Nat.mul_comm (k / s), Nat.div_add_mod]
        rw [this, h2] at q1
        simp only [Option.some.injEq] at q1
        exact q1 ▸ q2
      · intro i row j a h1 h2
        have hi : i < len := by have := (List.getElem?_eq_some_iff.1 h1).1; omega
        rw [hget i hi] at h1
        obtain ⟨v, q1, _, q3⟩ := hr.cell _ row _ a h1 h2
        have hj : j < s := by rw [← hs2, ← hr.wide row (List.mem_of_getElem? h1)]; exact (List.getElem?_eq_some_iff.1 h2).1
        have hlt : i * s + j < len * s := by have := row_le (sz := s) hi; omega
        refine ⟨v, ?_, q3⟩
        rw [List.getElem?_take, if_pos hlt, List.getElem?_drop]
        have : off * s + (i * s + j) = (off + i) * blk.sz + j := by rw [hs2, Nat.add_mul, Nat.add_assoc]
        rw [this]
        simpa using q1
      · intro ad had j u hu
        simp only [Option.some.injEq] at had
        subst had
        have hj : j < len * s := by have := (List.getElem?_eq_some_iff.1 hu).1; simp at this; omega
        obtain ⟨u', h1, h2⟩ := hcell j hj
        rw [hu] at h1
        simp only [Option.some.injEq] at h1
        subst h1
        rw [add_lit, cell_of_row w (m b) _ c blk.e (0, 0) hc]
        exact h2

theorem Flat.rows {sz : Nat} {rows : List (List AV)} {vs : List Value} (h : Flat w F A m sz rows vs) (e : TypeId) (fl : Bool) (hfl : fl = true → flatRows rows) (rest : List Value) : RRows w F A m { e, sz, flat := fl, rows } (vs ++ rest).toArray := by
  refine ⟨by simp [h.len], h.wide, hfl, fun i row j a h1 h2 => ?_⟩
  obtain ⟨v, q1, q2⟩ := h.cell i row j a h1 h2
  have hlt := (List.getElem?_eq_some_iff.1 q1).1
  exact ⟨v, by rw [List.getElem?_toArray, List.getElem?_append, if_pos hlt]; exact q1, h.one v (List.mem_of_getElem? q1), q2⟩

theorem Flat.append {sz : Nat} {rows rows' : List (List AV)} {vs vs' : List Value} (h : Flat w F A m sz rows vs) (h' : Flat w F A m sz rows' vs') : Flat w F A m sz (rows ++ rows') (vs ++ vs') := by
  refine ⟨by simp [h.len, h'.len, Nat.add_mul], fun row hr => ?_, fun u hu => ?_, fun i row j a h1 h2 => ?_⟩
  · rcases List.mem_append.1 hr with hr | hr
    · exact h.wide row hr
    · exact h'.wide row hr
  · rcases List.mem_append.1 hu with hu | hu
    · exact h.one u hu
    · exact h'.one u hu
  · rw [List.getElem?_append] at h1
    split at h1
    · obtain ⟨v, q1, q2⟩ := h.cell i row j a h1 h2
      have hlt := (List.getElem?_eq_some_iff.1 q1).1
      exact ⟨v, by rw [List.getElem?_append, if_pos hlt]; exact q1, q2⟩
    · rename_i hi
      obtain ⟨v, q1, q2⟩ := h'.cell _ row j a h1 h2
      refine ⟨v, ?_, q2⟩
      have hle := Nat.mul_le_mul_right sz (show rows.length ≤ i by omega)
      rw [List.getElem?_append, if_neg (by rw [h.len]; omega), h.len, ← q1]
      congr 1
      rw [Nat.sub_mul]
      omega

theorem Flat.drew {sz : Nat} {rows : List (List AV)} {vs : List Value} {n : Nat} (h : Flat w F A m sz rows vs) : Flat { w with drawn := n } F A m sz rows vs :=
  ⟨h.len, h.wide, h.one, fun i row j a h1 h2 => let ⟨v, q1, q2⟩ := h.cell i row j a h1 h2; ⟨v, q1, q2.drew⟩⟩

theorem Inv.kill (I : Inv w F A m H) (b : Nat) : Inv w F A m (H.set b none) where
  own := fun b' x h => by
    rw [AHeap.get_set] at h
    split at h
    · cases h
    · exact I.own b' x h
  blk := fun b' x h => by
    rw [AHeap.get_set] at h
    split at h
    · cases h
    · exact I.blk b' x h
  inj := fun b1 b2 x y h1 h2 => by
    rw [AHeap.get_set] at h1 h2
    split at h1
    · cases h1
    · split at h2
      · cases h2
      · exact I.inj b1 b2 x y h1 h2
  bound := I.bound

theorem Evo.kill {b : Nat} : Evo w F A m H w F A m (H.set b none) where
  os := rfl
  tape := rfl
  output := rfl
  size := Nat.le_refl _
  shape := fun _ _ => rfl
  same := fun _ _ _ => rfl
  forb := fun _ h => .inl h
  keep := fun _ _ h _ => h
  ext := fun _ h => ⟨h, rfl⟩
  owns := fun b' x h => by
    rw [AHeap.get_set] at h
    split at h
    · cases h
    · exact .inl ⟨_, _, h, rfl⟩

/-- A block gets another number. -/
theorem renumber {b : Nat} {blk : Blk} (I : Inv w F A m H) (hn : ¬ A H.next) (hb : H.get b = some blk) :
    Inv w F (withB A H.next) (withM m H.next (m b)) ((H.set b none).push blk) ∧ Evo w F A m H w F (withB A H.next) (withM m H.next (m b)) ((H.set b none).push blk) := by
  have hnone : H.get H.next = none := by
    cases h : H.get H.next with
    | none => rfl
    | some x => exact absurd (I.own _ _ h).1 hn
  have hbn : b ≠ H.next := fun e => by subst e; rw [hnone] at hb; cases hb
  have hm : ∀ x, x ≠ H.next → withM m H.next (m b) x = m x := fun x hx => if_neg hx
  have hmn : withM m H.next (m b) H.next = m b := if_pos rfl
  have hmono : ∀ {a : AV} {v : Value}, RV w F A m a v → RV w F (withB A H.next) (withM m H.next (m b)) a v := fun h =>
    h.mono (Nat.le_refl _) (fun _ _ => rfl) (fun _ _ _ => rfl) (fun _ _ h => h) (fun x hx => ⟨.inl hx, hm x fun e => hn (e ▸ hx)⟩)
  have hget : ∀ x y, ((H.set b none).push blk).get x = some y → (x = H.next ∧ y = blk) ∨ (x ≠ H.next ∧ x ≠ b ∧ H.get x = some y) := fun x y h => by
    rw [AHeap.get_push, AHeap.next_set] at h
    split at h
    · rename_i e; simp only [Option.some.injEq] at h; exact .inl ⟨e, h.symm⟩
    · rename_i e
      rw [AHeap.get_set] at h
      split at h
      · cases h
      · rename_i e2; exact .inr ⟨e, e2, h⟩
  refine ⟨⟨fun x y h => ?_, fun x y h => ?_, fun x x' y y' h h' he => ?_, I.bound⟩, ⟨rfl, rfl, rfl, Nat.le_refl _, fun _ _ => rfl, fun _ _ _ => rfl, fun _ h => .inl h, fun _ _ h _ => h, fun x hx => ⟨.inl hx, hm x fun e => hn (e ▸ hx)⟩, fun x y h => ?_⟩⟩
  · rcases hget x y h with ⟨rfl, rfl⟩ | ⟨h1, h2, h3⟩
    · rw [hmn]; exact ⟨.inr rfl, (I.own b _ hb).2⟩
    · rw [hm x h1]; exact ⟨.inl (I.own x y h3).1, (I.own x y h3).2⟩
  · have tr : ∀ (x' : Nat), H.get x' = some y → ∃ c, w.heap[m x']? = some (.cells c y.e (0, 0)) ∧ RRows w F (withB A H.next) (withM m H.next (m b)) y c := fun x' h => by
      obtain ⟨c, hc, hr⟩ := I.blk x' y h
      exact ⟨c, hc, hr.fits, hr.wide, hr.flat, fun i row j a h1 h2 => let ⟨v, q1, q2, q3⟩ := hr.cell i row j a h1 h2; ⟨v, q1, q2, hmono q3⟩⟩
    rcases hget x y h with ⟨rfl, rfl⟩ | ⟨h1, h2, h3⟩
    · rw [hmn]; exact tr b hb
    · rw [hm x h1]; exact tr x h3
  · rcases hget x y h with ⟨rfl, rfl⟩ | ⟨h1, h2, h3⟩ <;> rcases hget x' y' h' with ⟨rfl, rfl⟩ | ⟨h4, h5, h6⟩
    · rfl
    · rw [hmn, hm x' h4] at he; exact absurd (I.inj _ _ _ _ hb h6 he).symm h5
    · rw [hmn, hm x h1] at he; exact absurd (I.inj _ _ _ _ h3 hb he) h2
    · rw [hm x h1, hm x' h4] at he; exact I.inj _ _ _ _ h3 h6 he
  · rcases hget x y h with ⟨rfl, rfl⟩ | ⟨h1, h2, h3⟩
    · exact .inl ⟨b, _, hb, hmn.symm⟩
    · exact .inl ⟨x, y, h3, (hm x h1).symm⟩

theorem AHeap.set_set_push (H : AHeap) (b : Nat) (x : Option Blk) (y : Blk) : ((H.set b x).set b none).push y = (H.set b none).push y := by
  simp only [AHeap.push, AHeap.set]
  congr 1
  funext j
  by_cases h1 : j = H.next <;> by_cases h2 : j = b <;> simp [h1, h2]

theorem After.trans {w' w'' : World} {F' A' A'' : Nat → Prop} {m' : Nat → Nat} {H' H'' : AHeap} {z : AV} {r : Value} (E : Evo w F A m H w' F' A' m' H') (h : After w' F' A' m' H' A'' H'' z r w'') : After w F A m H A'' H'' z r w'' := by
  obtain ⟨F2, m2, q1, q2, q3⟩ := h.ex
  exact ⟨F2, m2, q1, q2, E.trans q3⟩

theorem withB_self {A : Nat → Prop} {b : Nat} {a : AV} {v : Value} {m : Nat → Nat} (h : RV w F A m a v) : RV w F (withB A b) m a v :=
  h.mono (Nat.le_refl _) (fun _ _ => rfl) (fun _ _ _ => rfl) (fun _ _ h => h) (fun _ hx => ⟨.inl hx, rfl⟩)

theorem aappend_sound {t ty : TypeId} {s x z : AV} {u v : Value} {H' : AHeap} (h : aappend P t s x H = some (z, H')) (I : Inv w F A m H) (hn : ¬ A H.next) (hs : RV w F A m s u) (hx : RV w F A m x v) :
    ∃ r w', (Builtin.append_ #[t, t] ty #[u, v]).run P w = .ok r w' ∧ After w F A m H (withB A H.next) H' z r w' := by
  unfold aappend aappendR at h
  split at h <;> try (cases h; done)
  rename_i kk hkk
  obtain ⟨i, zv, hu, hi, hz, hzs, hpos, k1, k2, k3⟩ := ekOf_some hkk
  obtain ⟨e, ksz, kby, kz⟩ := kk
  simp only at hu hi k1 k2 k3 h
  subst k1 k2 k3
  split at h <;> try (cases h; done)
  rename_i new fl hnew
  split at h <;> try (cases h; done)
  rename_i hbp
  obtain ⟨news, a, cap, rfl, hfl, hff, hnil, hcell⟩ := source_sound hnew I hx hpos
  split at h
  · -- onto nil
    split at h <;> try (cases h; done)
    rename_i hby
    cases hs
    split at h
    · rename_i hne
      subst hne
      simp only [Option.some.injEq, Prod.mk.injEq] at h
      obtain ⟨rfl, rfl⟩ := h
      refine ⟨.slice none 0 0, w, ?_, ⟨F, m, ⟨fun b x h => ⟨.inl (I.own b x h).1, (I.own b x h).2⟩, fun b x h => ?_, I.inj, I.bound⟩, .nils, ⟨rfl, rfl, rfl, Nat.le_refl _, fun _ _ => rfl, fun _ _ _ => rfl, fun _ h => .inl h, fun _ _ h _ => h, fun _ h => ⟨.inl h, rfl⟩, fun b x h => .inl ⟨_, _, h, rfl⟩⟩⟩⟩
      · cases a <;> simp [Builtin.append_, run_underlying hu, sizeOf, typeInfo, hi, Builtin.lenOf, Builtin.firstCells, loadCells, loadCellsFrom]
      · obtain ⟨c, hc, hr⟩ := I.blk b x h
        exact ⟨c, hc, hr.fits, hr.wide, hr.flat, fun i row j a h1 h2 => let ⟨v, q1, q2, q3⟩ := hr.cell i row j a h1 h2; ⟨v, q1, q2, withB_self q3⟩⟩
    · rename_i hne
      simp only [Option.some.injEq, Prod.mk.injEq] at h
      obtain ⟨rfl, rfl⟩ := h
      cases a with
      | none => exact absurd (hnil rfl) hne
      | some ad =>
        have hlen : 0 < new.length := List.length_pos_iff.2 hne
        have hnl : new.length ≤ 140737488355328 := Nat.le_trans (Nat.le_mul_of_pos_right _ hbp) hby
        have hrun := run_append_nil (P := P) w t ty e i zv hu hi hz ad new.length cap news hfl.len (hcell ad rfl) hlen (by omega) (by omega)
        have hge := grownCap_ge w new.length 0 e
        have hmx := grownCap_le_maxLen w new.length 0 e (by simp only [maxLen]; omega)
        have hsz : (news.toArray ++ Builtin.zeroCells zv.cells (grownCap w new.length 0 e - new.length)).size = grownCap w new.length 0 e * i.size := by
          simp only [Array.size_append, List.size_toArray, hfl.len, size_zeroCells, hzs, ← Nat.add_mul]
          congr 1
          omega
        refine ⟨_, _, hrun, ?_⟩
        have hR : RRows w.drew F A m { e, sz := i.size, flat := fl, rows := new } (news.toArray ++ Builtin.zeroCells zv.cells (grownCap w new.length 0 e - new.length)) := by
          have := (Flat.drew (n := w.drawn + 1) hfl).rows e fl hff (Builtin.zeroCells zv.cells (grownCap w new.length 0 e - new.length)).toList
          have e1 : news.toArray ++ Builtin.zeroCells zv.cells (grownCap w new.length 0 e - new.length) = (news ++ (Builtin.zeroCells zv.cells (grownCap w new.length 0 e - new.length)).toList).toArray := by
            apply Array.toList_inj.1; simp
          rw [e1]; exact this
        exact After.trans Evo.drew (new_slice (w := w.drew) (blk := { e, sz := i.size, flat := fl, rows := new }) (Inv.drew I) hn hR hge hmx hsz)
  · -- onto a block
    rename_i b sz len
    split at h <;> try (cases h; done)
    rename_i blk hb
    split at h <;> try (cases h; done)
    rename_i hok
    obtain ⟨hs1, hs2, hbe, hrl, hby⟩ := hok
    subst hs1
    simp only [Option.some.injEq, Prod.mk.injEq] at h
    obtain ⟨rfl, rfl⟩ := h
    obtain ⟨c, hc, hr⟩ := I.blk b blk hb
    cases hs with
    | sl b s off len capS e' hA hcap hmS hshape =>
      have hsize : c.size = capS * i.size := by
        rw [shape_of_cells hc] at hshape
        simp only [Option.some.injEq, Prod.mk.injEq, Nat.zero_add] at hshape
        exact hshape.2
      have hsum : len + new.length ≤ 140737488355328 := Nat.le_trans (Nat.le_mul_of_pos_right _ hbp) hby
      rw [hbe] at hc
      have hold : Flat w F A m i.size blk.rows (c.toList.take (len * i.size)) := by
        have hle : len * i.size ≤ c.size := by rw [hsize]; exact Nat.mul_le_mul_right _ hcap
        refine ⟨by rw [hrl]; simp; omega, fun row h => hs2 ▸ hr.wide row h, fun y hy => ?_, fun q row j y h1 h2 => ?_⟩
        · obtain ⟨k, hk⟩ := List.mem_iff_getElem?.1 hy
          have hk2 : k < len * i.size := by have := (List.getElem?_eq_some_iff.1 hk).1; simp at this; omega
          rw [List.getElem?_take, if_pos hk2] at hk
          have h0 : k / i.size < blk.rows.length := by rw [hrl]; exact Nat.div_lt_of_lt_mul (by rw [Nat.mul_comm]; exact hk2)
          have h3 : k % i.size < (blk.rows[k / i.size]).length := by rw [hr.wide _ (List.getElem_mem h0), hs2]; exact Nat.mod_lt _ hpos
          obtain ⟨y', q1, q2, _⟩ := hr.cell (k / i.size) blk.rows[k / i.size] (k % i.size) (blk.rows[k / i.size])[k % i.size] (by simp [h0]) (by simp [h3])
          rw [hs2, Nat.mul_comm, Nat.div_add_mod] at q1
          have : y = y' := by simpa [q1] using hk.symm
          rw [this]; exact q2
        · obtain ⟨y', q1, _, q3⟩ := hr.cell q row j y h1 h2
          have hq := (List.getElem?_eq_some_iff.1 h1).1
          have hj : j < i.size := by rw [← hs2, ← hr.wide row (List.mem_of_getElem? h1)]; exact (List.getElem?_eq_some_iff.1 h2).1
          have hlt : q * i.size + j < len * i.size := by have := row_le (sz := i.size) hq; rw [hrl] at this; omega
          refine ⟨y', ?_, q3⟩
          rw [List.getElem?_take, if_pos hlt]
          rw [hs2] at q1
          simpa using q1
      have hfapp : (blk.flat && fl) = true → flatRows (blk.rows ++ new) := fun h row hrow => by
        rw [Bool.and_eq_true] at h
        rcases List.mem_append.1 hrow with hrow | hrow
        · exact hr.flat h.1 row hrow
        · exact hff h.2 row hrow
      simp only [Nat.zero_mul]
      by_cases hroom : len + new.length ≤ capS
      · -- there is room
        have key : ∀ (c' : Array Value), c'.size = c.size → RRows w F A m { e, sz := i.size, flat := blk.flat && fl, rows := blk.rows ++ new } c' → ∀ w1, w1 = w.setRow (m b) c' →
            After w F A m H (withB A H.next) ((H.set b none).push { e, sz := i.size, flat := blk.flat && fl, rows := blk.rows ++ new }) (.sl H.next i.size 0 (len + new.length)) (.slice (some ⟨m b, 0, none⟩) (len + new.length) capS) w1 := by
          intro c' hcs hR w1 hw1
          subst hw1
          obtain ⟨I1, E1⟩ := setRow_sound (blk := blk) (blk' := { e, sz := i.size, flat := blk.flat && fl, rows := blk.rows ++ new }) (c' := c') hbe.symm I hb (by rw [hbe]; exact hc) hcs hR
          obtain ⟨I2, E2⟩ := renumber (b := b) (blk := { e, sz := i.size, flat := blk.flat && fl, rows := blk.rows ++ new }) I1 (by simpa [AHeap.set] using hn) (by simp [AHeap.set])
          rw [AHeap.set_set_push] at I2 E2
          simp only [AHeap.next_set] at I2 E2
          refine ⟨_, _, I2, ?_, E1.trans E2⟩
          have hsh := setRow_heap w (m b) c c' e (0, 0) hc
          have := RV.sl (w := w.setRow (m b) c') (F := F) (A := withB A H.next) (m := withM m H.next (m b)) H.next i.size 0 (len + new.length) capS e (.inr rfl) hroom hmS
            (by simp only [withM, if_true]; rw [shape_of_cells hsh, hcs, hsize]; simp)
          simpa [withM] using this
        have hle : len * i.size + news.length ≤ c.size := by
          rw [hfl.len, hsize, ← Nat.add_mul]; exact Nat.mul_le_mul_right _ hroom
        have hR : RRows w F A m { e, sz := i.size, flat := blk.flat && fl, rows := blk.rows ++ new } (c.toList.take (len * i.size) ++ news ++ c.toList.drop (len * i.size + news.length)).toArray := by
          exact (hold.append hfl).rows e (blk.flat && fl) hfapp (c.toList.drop (len * i.size + news.length))
        have hcs : (c.toList.take (len * i.size) ++ news ++ c.toList.drop (len * i.size + news.length)).toArray.size = c.size := by
          simp only [List.size_toArray, List.length_append, List.length_take, List.length_drop, Array.length_toList]
          omega
        cases a with
        | some ad =>
          have hrun := run_append_room (P := P) w t ty e i hu hi (m b) len capS c hc ad new.length cap news hfl.len (hcell ad rfl) hfl.one hroom hle
          exact ⟨_, _, hrun, key _ hcs hR _ rfl⟩
        | none =>
          have hne := hnil rfl
          subst hne
          have hnw : news = [] := List.eq_nil_of_length_eq_zero (by simpa using hfl.len)
          subst hnw
          refine ⟨.slice (some ⟨m b, 0, none⟩) len capS, w, ?_, ?_⟩
          · simp [Builtin.append_, run_underlying hu, sizeOf, typeInfo, hi, Builtin.lenOf, Builtin.firstCells, hcap, storeCells]
          · have hR' : RRows w F A m { e, sz := i.size, flat := blk.flat && fl, rows := blk.rows ++ [] } c :=
              ⟨by have := hr.fits; rw [hs2] at this; simpa using this, fun row h => by rw [← hs2]; exact hr.wide row (by simpa using h), hfapp, fun q row j y h1 h2 => by
                obtain ⟨v, q1, q2, q3⟩ := hr.cell q row j y (by simpa using h1) h2
                exact ⟨v, by rw [hs2] at q1; exact q1, q2, q3⟩⟩
            have := key c rfl hR' w (setRow_self w (m b) c e (0, 0) hc).symm
            simpa using this
      · -- there is none
        cases a with
        | none =>
          have hne := hnil rfl
          subst hne
          exact absurd hcap (by simpa using hroom)
        | some ad =>
          have holds : ∀ (j : Nat) (y : Value), (c.toList.take (len * i.size))[j]? = some y → w.cell? ((⟨m b, 0, none⟩ : Addr).add j) = some y := fun j y hy => by
            rw [add_lit, Nat.zero_add, cell_of_row w (m b) j c e (0, 0) hc]
            rw [List.getElem?_take] at hy
            split at hy
            · simpa using hy
            · cases hy
          have hlo : (c.toList.take (len * i.size)).length = len * i.size := by
            have := hold.len
            rw [hrl] at this
            exact this
          have hrun := run_append_grow (P := P) w t ty e i zv hu hi hz ⟨m b, 0, none⟩ len capS (c.toList.take (len * i.size)) hlo holds ad new.length cap news hfl.len (hcell ad rfl) (by omega) (by omega) (growslice_fits (by omega) hby)
          have hge := grownCap_ge w (len + new.length) capS e
          have hmx := grownCap_le_maxLen w (len + new.length) capS e (by simp only [maxLen]; omega)
          have hsz : ((c.toList.take (len * i.size)).toArray ++ news.toArray ++ Builtin.zeroCells zv.cells (grownCap w (len + new.length) capS e - (len + new.length))).size = grownCap w (len + new.length) capS e * i.size := by
            rw [Array.size_append, Array.size_append, List.size_toArray, List.size_toArray, hlo, hfl.len, size_zeroCells, hzs, ← Nat.add_mul, ← Nat.add_mul]
            congr 1
            omega
          refine ⟨_, _, hrun, ?_⟩
          have hR : RRows w.drew F A m { e, sz := i.size, flat := blk.flat && fl, rows := blk.rows ++ new } ((c.toList.take (len * i.size)).toArray ++ news.toArray ++ Builtin.zeroCells zv.cells (grownCap w (len + new.length) capS e - (len + new.length))) := by
            have := (Flat.drew (n := w.drawn + 1) (hold.append hfl)).rows e (blk.flat && fl) hfapp (Builtin.zeroCells zv.cells (grownCap w (len + new.length) capS e - (len + new.length))).toList
            have e1 : (c.toList.take (len * i.size)).toArray ++ news.toArray ++ Builtin.zeroCells zv.cells (grownCap w (len + new.length) capS e - (len + new.length)) = (c.toList.take (len * i.size) ++ news ++ (Builtin.zeroCells zv.cells (grownCap w (len + new.length) capS e - (len + new.length))).toList).toArray := by
              apply Array.toList_inj.1; simp
            rw [e1]; exact this
          exact After.trans (Evo.drew.trans Evo.kill) (new_slice (w := w.drew) (H := H.set b none) (blk := { e, sz := i.size, flat := blk.flat && fl, rows := blk.rows ++ new }) ((Inv.drew I).kill b) (by simpa [AHeap.set] using hn) hR hge hmx hsz)
  · cases h
end
end Go.Abs
