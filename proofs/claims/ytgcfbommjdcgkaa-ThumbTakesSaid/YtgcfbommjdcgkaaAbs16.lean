/-
  Regions that draw their order: any order.
-/
import Derived.Test.YtgcfbommjdcgkaaAbs15
set_option linter.unusedSimpArgs false
set_option linter.unusedVariables false
namespace Go.Abs
section
variable {P : Program} {C : Tab} {ops : Array Oper} {frs : Nat → AFr} {hs : Nat → AHeap}

theorem ready_mem {lst : Array Bool} {D : Nat → Prop} (hsz : lst.size = ops.size) (hD : ∀ k, D k ↔ lst[k]? = some true) {i : Nat} :
    i ∈ Region.ready .any ops lst ↔ ∃ o, ops[i]? = some o ∧ ¬ D i ∧ ∀ e, e ∈ o.after.toList → Region.binds .any e = true → D e.on := by
  have getT : ∀ k, lst.getD k false = true ↔ D k := fun k => by
    rw [hD, Array.getD_eq_getD_getElem?]
    cases lst[k]? with
    | none => simp
    | some b => simp
  unfold Region.ready
  simp only [List.mem_filter, List.mem_range, Bool.and_eq_true, Bool.not_eq_true']
  constructor
  · rintro ⟨hi, h1, h2⟩
    have ho : ops[i]? = some ops[i] := by simp [hi]
    rw [ho] at h2
    simp only [Option.map_some, Option.getD_some] at h2
    refine ⟨ops[i], ho, fun h => ?_, fun e he hb => ?_⟩
    · rw [Array.getD_eq_getD_getElem?, (hD i).1 h] at h1; cases h1
    · have := (Array.all_eq_true'.1 h2) e (by simpa using he)
      simp only [Bool.or_eq_true, Bool.not_eq_true'] at this
      rcases this with h | h
      · rw [hb] at h; cases h
      · exact (getT _).1 h
  · rintro ⟨o, ho, h1, h2⟩
    have hi : i < ops.size := (Array.getElem?_eq_some_iff.1 ho).1
    refine ⟨hi, ?_, ?_⟩
    · rw [hD] at h1
      have : lst[i]? = some lst[i] := by simp [hsz, hi]
      rw [Array.getD_eq_getD_getElem?, this]
      rw [this] at h1
      simpa using h1
    · rw [ho]
      simp only [Option.map_some, Option.getD_some]
      refine Array.all_eq_true'.2 fun e he => ?_
      cases hb : Region.binds .any e with
      | false => rfl
      | true =>
        have := (getT _).2 (h2 e (by simpa using he) hb)
        simp [this]

theorem ready_nil {lst : Array Bool} {D : Nat → Prop} (R : regOk C ops = true) (hsz : lst.size = ops.size) (hD : ∀ k, D k ↔ lst[k]? = some true) (h : Region.ready .any ops lst = []) : ∀ k, k < ops.size → D k := by
  intro k
  induction k using Nat.strongRecOn with
  | _ k ih =>
    intro hk
    refine Classical.byContradiction fun hn => ?_
    have ho : ops[k]? = some ops[k] := by simp [hk]
    have : k ∈ Region.ready .any ops lst := (ready_mem hsz hD).2 ⟨ops[k], ho, hn, fun e he hb => by
      have := reg_edge R ho he hb
      exact ih e.on this (by omega)⟩
    rw [h] at this; cases this

theorem ready_ok {lst : Array Bool} {D : Nat → Prop} (R : regOk C ops = true) (hsz : lst.size = ops.size) (hD : ∀ k, D k ↔ lst[k]? = some true) (hc : Closed ops D) {i : Nat} (h : i ∈ Region.ready .any ops lst) : ∃ o, Ready ops D i o := by
  obtain ⟨o, h1, h2, h3⟩ := (ready_mem hsz hD).1 h
  refine ⟨o, h1, h2, hc, fun k hk hb => ?_⟩
  obtain ⟨e, he, hbi, hor⟩ := reg_via R (o := ops[k]) (by simp [hk]) h1 hb
  have hDe := h3 e he hbi
  rcases hor with rfl | hor
  · exact hDe
  · have hi : i < ops.size := (Array.getElem?_eq_some_iff.1 h1).1
    have := reg_edge R h1 he hbi
    exact hc k e.on hk (by omega) hDe hor

theorem Ready.closedW {D : Nat → Prop} {i : Nat} {o : Oper} (r : Ready ops D i o) : Closed ops (With D i) := by
  intro a b ha hb hD hbf
  rcases hD with hD | rfl
  · exact .inl (r.closed a b ha hb hD hbf)
  · exact .inl (r.bef a ha hbf)

theorem draw_go (hC : Tab.Sound P C) (R : Run P C ops frs hs) {l : List Nat} {n : Nat} (hd : ops.toList.all (dstOk n) = true) {w0 : World} {F0 A0 : Nat → Prop} {m0 : Nat → Nat} {H0 : AHeap} {Q : Exit → Act → World → Prop}
    (hQ : ∀ a' w' F' m', Inv w' F' (Nx (hs ops.size)) m' (hs ops.size) → RF w' F' (Nx (hs ops.size)) m' ((frs ops.size).only l) a'.tmps → a'.tmps.size = n → a'.defers = [] → Evo w0 F0 A0 m0 H0 w' F' (Nx (hs ops.size)) m' (hs ops.size) → Q .normal a' w') :
    ∀ (fuel : Nat) (lst : Array Bool) (a : Act) (w : World) (D F A : Nat → Prop) (m : Nat → Nat) (G : AHeap) (κ : Nat), lst.size = ops.size → (∀ k, D k ↔ lst[k]? = some true) → lst.toList.count false ≤ fuel → Closed ops D →
      HS C ops hs D A G κ → Inv w F A m G → FS ops frs D w F A m a.tmps → a.tmps.size = n → a.defers = [] → Evo w0 F0 A0 m0 H0 w F A m G → wpAny P .any ops Q fuel lst a w := by
  -- when all is done
  have fin : ∀ (a : Act) (w : World) (D F A : Nat → Prop) (m : Nat → Nat) (G : AHeap) (κ : Nat), (∀ k, k < ops.size → D k) → HS C ops hs D A G κ → Inv w F A m G → FS ops frs D w F A m a.tmps → a.tmps.size = n → a.defers = [] → Evo w0 F0 A0 m0 H0 w F A m G → Q .normal a w := by
    intro a w D F A m G κ hall S I fs hsz hdf E
    have hA : A = Nx (hs ops.size) := by
      funext b
      refine propext ⟨fun hb => ?_, fun hb => ?_⟩
      · obtain ⟨j, h1, h2, _, _⟩ := S.blk b hb
        exact R.born_lt h2 h1 (Nat.le_refl _)
      · obtain ⟨j, h1, h2⟩ := R.born_ex hb
        exact S.all b j h1 h2 fun k hk => hall k (by omega)
    have hG : (hs ops.size).get = G.get := by
      funext b
      by_cases hb : A b
      · obtain ⟨j, h1, h2, _, h4⟩ := S.blk b hb
        rw [h4]
        have hκ := S.le
        refine R.chain (R.born_lt h2 (by omega) (by omega)) (by omega) (Nat.le_refl _) fun k o q1 q2 q3 q4 => ?_
        have := (S.sep k o q3 q4).1 (hall k q2)
        omega
      · have h1 : G.get b = none := by
          cases h : G.get b with
          | none => rfl
          | some x => exact (hb (I.own b x h).1).elim
        rw [h1]
        cases h : (hs ops.size).get b with
        | none => rfl
        | some x => exact (hb (by rw [hA]; exact R.wf (Nat.le_refl _) b x h)).elim
    refine hQ a w F m (by rw [← hA]; exact gets_inv I hG) (fun t => ?_) hsz hdf (by rw [← hA]; exact E.gets hG)
    rw [← hA]
    rcases AFr.only_or (frs ops.size) l t with h | h <;> rw [h]
    · obtain ⟨σ, h1, h2, h3⟩ := fs t
      have : frs ops.size t = frs σ t := R.slot h1 (Nat.le_refl _) fun k o q1 q2 q3 q4 => by
        have := (h2 k o q3 q4).1 (hall k q2)
        omega
      rw [this]; exact h3
    · exact .undef _
  intro fuel
  induction fuel with
  | zero =>
    intro lst a w D F A m G κ hsz hD hcnt hcl S I fs hn hdf E
    have hall : ∀ k, k < ops.size → D k := fun k hk => by
      rw [hD]
      have h0 : lst.toList.count false = 0 := by omega
      have : lst[k]? = some lst[k] := by simp [hsz, hk]
      rw [this]
      cases hb : lst[k] with
      | true => rfl
      | false =>
        exfalso
        exact List.count_eq_zero.1 h0 (by rw [← hb]; simp)
    refine ⟨?_, fin a w D F A m G κ hall S I fs hn hdf E⟩
    rw [List.eq_nil_iff_forall_not_mem]
    intro i hi
    obtain ⟨o, h1, h2, _⟩ := (ready_mem hsz hD).1 hi
    exact h2 (hall i (Array.getElem?_eq_some_iff.1 h1).1)
  | succ fuel ih =>
    intro lst a w D F A m G κ hsz hD hcnt hcl S I fs hn hdf E
    refine ⟨fun h => fin a w D F A m G κ (ready_nil R.reg hsz hD h) S I fs hn hdf E, fun i hi => ?_⟩
    obtain ⟨o, r⟩ := ready_ok R.reg hsz hD hcl hi
    have hdst : ∀ d, o.dst = some d → d < a.tmps.size := fun d hdd => by
      have := List.all_eq_true.1 hd o (by simpa using Array.mem_of_getElem? r.at_)
      simp only [dstOk, hdd, decide_eq_true_eq] at this
      rw [hn]; exact this
    refine draw_step hC R r S I fs hdst fun v w' F' A' m' G' κ' S' I' fs' E' => ?_
    have hil := r.lt
    have hlf : lst[i]? = some false := by
      have h1 : lst[i]? = some lst[i] := by simp [hsz, hil]
      have h2 := r.new
      rw [hD, h1] at h2
      rw [h1]
      cases hb : lst[i] with
      | false => rfl
      | true => rw [hb] at h2; exact (h2 rfl).elim
    refine ih (lst.setIfInBounds i true) _ w' (With D i) F' A' m' G' κ' (by simpa using hsz) (fun k => ?_) ?_ r.closedW S' I' fs' ?_ ?_ (E.trans E')
    · rw [Array.getElem?_setIfInBounds]
      by_cases hk : i = k
      · subst hk; simp [With, hsz, hil]
      · rw [if_neg hk]
        have : k ≠ i := fun e => hk e.symm
        simp [With, this, hD]
    · have hlt : i < lst.toList.length := by simpa [hsz] using hil
      rw [Array.toList_setIfInBounds, List.count_set hlt]
      have e : lst.toList[i] = false := by
        have := Array.getElem?_eq_some_iff.1 hlf
        simpa using this.2
      have hpos : 0 < lst.toList.count false := List.count_pos_iff.2 (by rw [← e]; simp)
      rw [e, if_pos (by rfl), if_neg (by decide)]
      omega
    · cases hdd : o.dst <;> simp [Act.put, hn]
    · cases hdd : o.dst <;> simp [Act.put, hdf]

noncomputable def draws (P : Program) (C : Tab) : Draws P C where
  run := adraw P C
  sound := by
    intro hC ops l fr H fr' H' h w F m a n hd I hf hsz hdf _ Q hQ
    have hwf : H.WF := fun b x hb => (I.own b x hb).1
    obtain ⟨frs, hs, R, rfl, rfl, h1, h2⟩ := adraw_run h hwf
    simp only at h1 h2
    subst h1 h2
    refine draw_go hC R (A0 := Nx (hs 0)) hd hQ ops.size (Array.replicate ops.size false) a w (fun _ => False) F (Nx (hs 0)) m (hs 0) 0 (by simp) (fun k => ?_) ?_ (fun _ _ _ _ h => h.elim) ?_ I (fun t => ?_) hsz hdf .refl
    · rw [Array.getElem?_replicate]
      split <;> simp
    · simp
    · refine ⟨Nat.zero_le _, fun k o _ _ => by simp, fun b hb => ⟨0, Nat.zero_le _, hb, fun j hj => by omega, by simp⟩, fun b i hi hB hD => ?_, fun _ _ _ _ h => h.elim⟩
      cases i with
      | zero => exact hB
      | succ i => exact (hD i rfl).elim
    · refine ⟨0, Nat.zero_le _, fun _ _ _ _ => by simp, hf t⟩
end

/-- What an empty slice may be. -/
def EmptyIn : List AV → List AV → Prop
  | [], [] => True
  | a :: as, b :: bs => ((∃ sz, a = .rsl sz [] ∧ (b = .nils ∨ b = .esl sz)) ∨ ((∀ sz, a ≠ .rsl sz []) ∧ b = a)) ∧ EmptyIn as bs
  | _, _ => False

def EmptyOut (b a : AV) : Prop := b = a ∨ ∃ sz, a = .rsl sz [] ∧ (b = .nils ∨ b = .esl sz)

theorem RV.empties {w : World} {F A : Nat → Prop} {m : Nat → Nat} : ∀ {as : List AV} {vs : List Value}, RL w F A m as vs → ∃ bs, EmptyIn as bs ∧ RL w F A m bs vs
  | [], vs, h => ⟨[], trivial, h⟩
  | _ :: _, [], h => by have := h.1; simp at this
  | a :: as, v :: vs, h => by
    obtain ⟨bs, h1, h2⟩ := RV.empties (as := as) (vs := vs) ⟨by simpa using h.1, fun i a v h1 h2 => h.2 (i + 1) a v (by simpa using h1) (by simpa using h2)⟩
    have hav := h.2 0 a v rfl rfl
    have one : ∃ b, ((∃ sz, a = .rsl sz [] ∧ (b = .nils ∨ b = .esl sz)) ∨ ((∀ sz, a ≠ .rsl sz []) ∧ b = a)) ∧ RV w F A m b v := by
      by_cases ha : ∃ sz, a = .rsl sz []
      · obtain ⟨sz, rfl⟩ := ha
        cases hav with
        | rsl0 _ ad cap h0 =>
          cases ad with
          | none =>
            have := h0 rfl
            subst this
            exact ⟨.nils, .inl ⟨sz, rfl, .inl rfl⟩, .nils⟩
          | some ad => exact ⟨.esl sz, .inl ⟨sz, rfl, .inr rfl⟩, .esl _ _ _⟩
        | rsl => exact ⟨.esl sz, .inl ⟨sz, rfl, .inr rfl⟩, .esl _ _ _⟩
      · exact ⟨a, .inr ⟨fun sz e => ha ⟨sz, e⟩, rfl⟩, hav⟩
    obtain ⟨b, h3, h4⟩ := one
    refine ⟨b :: bs, ⟨h3, h1⟩, by simp [h2.1], fun i c u e1 e2 => ?_⟩
    cases i with
    | zero => simp at e1 e2; subst e1 e2; exact h4
    | succ i => exact h2.2 i c u (by simpa using e1) (by simpa using e2)

theorem RV.emptyOut {w : World} {F A : Nat → Prop} {m : Nat → Nat} {a b : AV} {v : Value} (h : RV w F A m b v) (hb : EmptyOut b a) : RV w F A m a v := by
  rcases hb with rfl | ⟨sz, rfl, rfl | rfl⟩
  · exact h
  · cases h; exact .rsl0 _ _ _ fun _ => rfl
  · cases h; exact .rsl0 _ _ _ fun h => by cases h

/-- Whether an empty slice is nil is asked, and tells nothing. -/
theorem Sound.empties {P : Program} {f : FuncId} {k : Bool} {s s' : List AV → Option AV} (h : Sound P f (.pure k s)) (hs : ∀ args r, s' args = some r → ∀ bs, EmptyIn args bs → ∃ q, s bs = some q ∧ EmptyOut q r) : Sound P f (.pure k s') := by
  refine ⟨h.1, fun args r hr w F vs hF ha => ?_⟩
  obtain ⟨bs, h1, h2⟩ := RV.empties ha
  obtain ⟨q, h3, h4⟩ := hs args r hr bs h1
  refine (h.2 bs q h3 w F vs hF h2).mono ?_
  rintro e w' ⟨v, rfl, hb, hv⟩
  exact ⟨v, rfl, hb, hv.emptyOut h4⟩

/-- A copy of a slice whose cells bear no slices. -/
def cloneSpec (sz bytes : Nat) : List AV → Option AV
  | [.rsl s rows] => if s = sz ∧ (rows.all fun row => row.length == sz && row.all AV.noSlC) = true ∧ rows.length * bytes ≤ 140737488355328 then some (.rsl sz rows) else none
  | _ => none

theorem Sound.clone {P : Program} {f : FuncId} {sz bytes : Nat} {s : List AV → Option AV} (h : Sound P f (.pure true s)) (h1 : s [.nils] = some (.rsl sz [])) (h2 : s [.esl sz] = some (.rsl sz []))
    (h3 : ∀ r rows, ((r :: rows).all fun row => row.length == sz && row.all AV.noSlC) = true → (rows.length + 1) * bytes ≤ 140737488355328 → s [.rsl sz (r :: rows)] = some (.rsl sz (r :: rows))) : Sound P f (.pure true (cloneSpec sz bytes)) := by
  refine h.empties fun args r hr bs hb => ?_
  unfold cloneSpec at hr
  split at hr <;> try (cases hr; done)
  rename_i sz' rows
  split at hr <;> try (cases hr; done)
  rename_i hc
  obtain ⟨rfl, hc1, hc2⟩ := hc
  simp only [Option.some.injEq] at hr
  subst hr
  match bs, hb with
  | [b], hb =>
    rcases hb.1 with ⟨sz, he, rfl | rfl⟩ | ⟨hne, rfl⟩
    · cases he
      exact ⟨_, h1, .inl rfl⟩
    · cases he
      exact ⟨_, h2, .inl rfl⟩
    · cases rows with
      | nil => exact (hne _ rfl).elim
      | cons r rows => exact ⟨_, h3 r rows hc1 hc2, .inl rfl⟩
  | [], hb => exact hb.elim
  | _ :: _ :: _, hb => exact hb.2.elim

theorem Sound.less {P : Program} {f : FuncId} {s s' : List AV → Option AV} {k : Bool} (h : Sound P f (.pure k s)) (hs : ∀ args r, s' args = some r → s args = some r) : Sound P f (.pure k s') :=
  ⟨h.1, fun args r hr => h.2 args r (hs args r hr)⟩
theorem Sound.lessR {P : Program} {f : FuncId} {fz fz' : List Bool} {s s' : List AV → AHeap → Option (AV × AHeap)} (h : Sound P f (.ref fz s)) (hs : ∀ args H r, s' args H = some r → s args H = some r) : Sound P f (.ref fz' s') :=
  ⟨h.1, fun args H r H' hr => h.2 args H r H' (hs args H (r, H') hr)⟩
end Go.Abs
