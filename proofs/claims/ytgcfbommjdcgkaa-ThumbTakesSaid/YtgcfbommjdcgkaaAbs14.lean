/-
  A region in any order comes to what it comes to in the text's.
-/
import Derived.Test.YtgcfbommjdcgkaaAbs13
set_option linter.unusedSimpArgs false
set_option linter.unusedVariables false
namespace Go.Abs
section
variable {P : Program} {C : Tab} {ops : Array Oper} {frs : Nat → AFr} {hs : Nat → AHeap} {D A A' : Nat → Prop} {G G' : AHeap} {κ i : Nat} {o : Oper}

def With (D : Nat → Prop) (i : Nat) : Nat → Prop := fun k => D k ∨ k = i

theorem step_born (R : Run P C ops frs hs) (r : Ready ops D i o) {b j : Nat} (h : Born hs b j) (hD : ∀ k, j = k + 1 → With D i k) (hj : j ≤ ops.size) :
    (∀ k, j = k + 1 → D k) ∨ (j = i + 1 ∧ (hs i).next ≤ b ∧ b < (hs (i + 1)).next) := by
  cases j with
  | zero => exact .inl fun k hk => by omega
  | succ j =>
    rcases hD j rfl with h1 | h1
    · exact .inl fun k hk => by rw [← Nat.succ.inj hk]; exact h1
    · subst h1; exact .inr ⟨rfl, h.1, h.2⟩

/-- An operation that is no writer. -/
theorem HS.calm (S : HS C ops hs D A G κ) (R : Run P C ops frs hs) (r : Ready ops D i o) (hw : (clsOf C o.op).isW = false)
    (hA : (A' = A ∧ (hs (i + 1)).next = (hs i).next ∧ G'.get = G.get) ∨
      (A' = withB A (hs i).next ∧ (hs (i + 1)).next = (hs i).next + 1 ∧ G'.get (hs i).next = (hs (i + 1)).get (hs i).next ∧ ∀ b, b ≠ (hs i).next → G'.get b = G.get b)) :
    HS C ops hs (With D i) A' G' κ := by
  have hi := r.lt
  have hold : ∀ b, A b → A' b ∧ G'.get b = G.get b := fun b hb => by
    rcases hA with ⟨rfl, _, h⟩ | ⟨rfl, h1, h2, h3⟩
    · exact ⟨hb, by rw [h]⟩
    · exact ⟨.inl hb, h3 b fun e => S.fresh R r h1 (e ▸ hb)⟩
  have new : ∀ b, (hs i).next ≤ b → b < (hs (i + 1)).next → A' b := fun b h1 h2 => by
    rcases hA with ⟨rfl, h, _⟩ | ⟨rfl, h, _⟩
    · omega
    · exact .inr (by omega)
  refine ⟨S.le, fun k o' hk hw' => ?_, fun b hb => ?_, fun b j hj hB hD => ?_, fun k o' hk hw' hD b j hjk hB hn => ?_⟩
  · have hne : k ≠ i := fun e => by subst e; rw [r.at_] at hk; simp only [Option.some.injEq] at hk; subst hk; rw [hw] at hw'; cases hw'
    rw [← S.sep k o' hk hw']
    exact ⟨fun h => h.resolve_right hne, .inl⟩
  · have caseA : A b → ∃ i_1, i_1 ≤ ops.size ∧ Born hs b i_1 ∧ (∀ j, i_1 = j + 1 → With D i j) ∧ G'.get b = (hs (max κ i_1)).get b := fun hb => by
      obtain ⟨j, h1, h2, h3, h4⟩ := S.blk b hb
      exact ⟨j, h1, h2, fun k hk => .inl (h3 k hk), by rw [(hold b hb).2, h4]⟩
    rcases hA with ⟨rfl, _, _⟩ | ⟨rfl, h1, h2, h3⟩
    · exact caseA hb
    · rcases hb with hb | rfl
      · exact caseA hb
      · have hB : Born hs (hs i).next (i + 1) := ⟨Nat.le_refl _, by omega⟩
        refine ⟨i + 1, hi, hB, fun j hj => .inr (Nat.succ.inj hj).symm, h2.trans ?_⟩
        symm
        have hκ := S.le
        refine R.chain (by omega) (by omega) (by omega) fun k o' q1 q2 q3 q4 => ?_
        exact S.un k o' q3 q4 ((S.sep k o' q3 q4).2 (by omega)) _ i q1 hB r.new
  · rcases step_born R r hB hD hj with h | ⟨_, h1, h2⟩
    · exact (hold b (S.all b j hj hB h)).1
    · exact new b h1 h2
  · have hne : k ≠ i := fun e => by subst e; rw [r.at_] at hk; simp only [Option.some.injEq] at hk; subst hk; rw [hw] at hw'; cases hw'
    exact S.un k o' hk hw' (hD.resolve_right hne) b j hjk hB fun h => hn (.inl h)

/-- A writer. T: the blocks that it turns. -/
theorem HS.writer (S : HS C ops hs D A G i) (R : Run P C ops frs hs) (r : Ready ops D i o) (hw : (clsOf C o.op).isW = true) (T : Nat → Prop)
    (hT : ∀ b, T b → (A b ∧ ∃ x, (hs i).get b = some x) ∨ (b = (hs i).next ∧ (hs (i + 1)).next = (hs i).next + 1))
    (h1 : ∀ b, T b → G'.get b = (hs (i + 1)).get b) (h2 : ∀ b, ¬ T b → G'.get b = G.get b ∧ (hs (i + 1)).get b = (hs i).get b)
    (hA : (A' = A ∧ (hs (i + 1)).next = (hs i).next) ∨ (A' = withB A (hs i).next ∧ (hs (i + 1)).next = (hs i).next + 1 ∧ T (hs i).next)) :
    HS C ops hs (With D i) A' G' (i + 1) := by
  have hi := r.lt
  have hold : ∀ b, A b → A' b := fun b hb => by
    rcases hA with ⟨rfl, _⟩ | ⟨rfl, _⟩
    · exact hb
    · exact .inl hb
  refine ⟨hi, fun k o' hk hw' => ?_, fun b hb => ?_, fun b j hj hB hD => ?_, fun k o' hk hw' hD b j hjk hB hn => ?_⟩
  · refine ⟨fun h => ?_, fun h => ?_⟩
    · rcases h with h | rfl
      · have := (S.sep k o' hk hw').1 h; omega
      · omega
    · by_cases hki : k = i
      · exact .inr hki
      · exact .inl ((S.sep k o' hk hw').2 (by omega))
  · have caseA : A b → ∃ i_1, i_1 ≤ ops.size ∧ Born hs b i_1 ∧ (∀ j, i_1 = j + 1 → With D i j) ∧ G'.get b = (hs (max (i + 1) i_1)).get b := fun hb => by
      obtain ⟨j, q1, q2, q3, q4⟩ := S.blk b hb
      refine ⟨j, q1, q2, fun k hk => .inl (q3 k hk), ?_⟩
      have hji : j ≠ i + 1 := fun e => r.new (q3 i e)
      by_cases ht : T b
      · rw [h1 b ht]
        have : j ≤ i := by
          rcases hT b ht with ⟨_, x, hx⟩ | ⟨rfl, hn⟩
          · exact R.born_le q2 (R.wf S.le b x hx) S.le q1
          · exact (S.fresh R r hn hb).elim
        rw [show max (i + 1) j = i + 1 by omega]
      · rw [(h2 b ht).1, q4]
        by_cases hj : j ≤ i
        · rw [show max i j = i by omega, show max (i + 1) j = i + 1 by omega]; exact (h2 b ht).2.symm
        · rw [show max i j = j by omega, show max (i + 1) j = j by omega]
    rcases hA with ⟨rfl, _⟩ | ⟨rfl, hn, ht⟩
    · exact caseA hb
    · rcases hb with hb | rfl
      · exact caseA hb
      · refine ⟨i + 1, hi, ⟨Nat.le_refl _, by omega⟩, fun j hj => .inr (Nat.succ.inj hj).symm, ?_⟩
        rw [h1 _ ht, show max (i + 1) (i + 1) = i + 1 by omega]
  · rcases step_born R r hB hD hj with h | ⟨_, q1, q2⟩
    · exact hold b (S.all b j hj hB h)
    · rcases hA with ⟨rfl, h⟩ | ⟨rfl, h, _⟩
      · omega
      · exact .inr (by omega)
  · rcases hD with hD | rfl
    · exact S.un k o' hk hw' hD b j hjk hB fun h => hn (.inl h)
    · refine (h2 b fun ht => ?_).2
      rcases hT b ht with ⟨hb, _⟩ | ⟨rfl, hnx⟩
      · obtain ⟨j', q1, q2, q3, _⟩ := S.blk b hb
        have := R.born_uniq q2 hB q1 (by omega)
        exact hn (.inl (q3 j this))
      · have := R.born_lt hB hjk (by omega)
        omega

/-- Where a call stands that works on memory there is just what the text's order has there. -/
theorem HS.call (S : HS C ops hs D A G i) (R : Run P C ops frs hs) (r : Ready ops D i o) (hg : clsOf C o.op = .g) (hd : ∀ b, ¬ A b → G.get b = none) : A = Nx (hs i) ∧ G.get = (hs i).get := by
  have hi := r.lt
  have birth : ∀ b j, Born hs b (j + 1) → j < ops.size → j ≠ i → (D j ↔ j < i) := fun b j hB hj hne => by
    have ho : ops[j]? = some ops[j] := by simp [hj]
    have hal : (clsOf C ops[j].op).isAl = true := by
      cases h : (clsOf C ops[j].op).isAl with
      | true => rfl
      | false =>
        have := ((R.shape j hj).2 _ ho).none h
        have := hB.1
        have := hB.2
        omega
    refine ⟨fun h => ?_, fun h => ?_⟩
    · refine Nat.lt_of_not_le fun hle => ?_
      rcases reg_pair R.reg r.at_ ho (by omega) with h' | h'
      · exact r.after hj h h'
      · have := pairOk_cls h'
        simp [clsPair, hg, hal] at this
    · rcases reg_pair R.reg ho r.at_ h with h' | h'
      · exact r.bef j hj h'
      · have := pairOk_cls h'
        simp [clsPair, hg, hal] at this
  have hA : ∀ b, A b ↔ b < (hs i).next := fun b => by
    refine ⟨fun hb => ?_, fun hb => ?_⟩
    · obtain ⟨j, h1, h2, h3, _⟩ := S.blk b hb
      cases j with
      | zero => exact R.born_lt h2 (by omega) S.le
      | succ j =>
        have hD := h3 j rfl
        have hne : j ≠ i := fun e => r.new (e ▸ hD)
        have := (birth b j h2 (by omega) hne).1 hD
        exact R.born_lt h2 (by omega) S.le
    · obtain ⟨j, h1, h2⟩ := R.born_ex hb
      refine S.all b j (by omega) h2 fun k hk => ?_
      subst hk
      exact (birth b k h2 (by omega) (by omega)).2 (by omega)
  refine ⟨by funext b; exact propext (hA b), funext fun b => ?_⟩
  by_cases hb : A b
  · obtain ⟨j, h1, h2, h3, h4⟩ := S.blk b hb
    have := R.born_le h2 ((hA b).1 hb) S.le h1
    rw [h4, show max i j = i by omega]
  · rw [hd b hb]
    cases h : (hs i).get b with
    | none => rfl
    | some x => exact (hb ((hA b).2 (R.wf S.le b x h))).elim

/-- Behind such a call. -/
theorem HS.called (S : HS C ops hs D (Nx (hs i)) G i) (R : Run P C ops frs hs) (r : Ready ops D i o) (hw : (clsOf C o.op).isW = true) (hG : G'.get = (hs (i + 1)).get) :
    HS C ops hs (With D i) (Nx (hs (i + 1))) G' (i + 1) := by
  have hi := r.lt
  have hle := R.next_le (i := i) (j := i + 1) (by omega) (by omega)
  refine ⟨hi, fun k o' hk hw' => ?_, fun b hb => ?_, fun b j hj hB hD => ?_, fun k o' hk hw' hD b j hjk hB hn => ?_⟩
  · refine ⟨fun h => ?_, fun h => ?_⟩
    · rcases h with h | rfl
      · have := (S.sep k o' hk hw').1 h; omega
      · omega
    · by_cases hki : k = i
      · exact .inr hki
      · exact .inl ((S.sep k o' hk hw').2 (by omega))
  · by_cases hb' : b < (hs i).next
    · obtain ⟨j, q1, q2, q3, q4⟩ := S.blk b hb'
      have := R.born_le q2 hb' S.le q1
      exact ⟨j, q1, q2, fun k hk => .inl (q3 k hk), by rw [hG, show max (i + 1) j = i + 1 by omega]⟩
    · exact ⟨i + 1, hi, ⟨by omega, hb⟩, fun j hj => .inr (Nat.succ.inj hj).symm, by rw [hG, show max (i + 1) (i + 1) = i + 1 by omega]⟩
  · rcases step_born R r hB hD hj with h | ⟨_, q1, q2⟩
    · have h : b < (hs i).next := S.all b j hj hB h
      exact Nat.lt_of_lt_of_le h hle
    · exact q2
  · rcases hD with hD | rfl
    · exact S.un k o' hk hw' hD b j hjk hB fun h => hn (.inl h)
    · exfalso
      have h : b < (hs k).next := R.born_lt hB hjk (by omega)
      obtain ⟨j', q1, q2, q3, _⟩ := S.blk b h
      have := R.born_uniq q2 hB q1 (by omega)
      exact hn (.inl (q3 j this))

/-- A load. -/
theorem HS.load (S : HS C ops hs D A G κ) (R : Run P C ops frs hs) (r : Ready ops D i o) {t : TypeId} {x : Operand} (ho : o.op = .load t x) {z : AV} (hz : aload P t ((frs i).eval x) (hs i) = some z)
    {w : World} {F : Nat → Prop} {m : Nat → Nat} {v : Value} (hv : RV w F A m ((frs i).eval x) v) : aload P t ((frs i).eval x) G = some z := by
  have hi := r.lt
  rw [← hz]
  by_cases hp : ∃ b sz q j, (frs i).eval x = .ptr b sz q j
  · obtain ⟨b, sz, q, j0, hp⟩ := hp
    have hAb : A b := by rw [hp] at hv; cases hv with | ptr _ _ _ _ hA => exact hA
    obtain ⟨j, h1, h2, h3, h4⟩ := S.blk b hAb
    have hbi : ∃ y, (hs i).get b = some y := by
      rw [hp] at hz
      unfold aload aloadR at hz
      dsimp only at hz
      split at hz <;> try (cases hz; done)
      rename_i y hy
      exact ⟨y, hy⟩
    obtain ⟨y, hy⟩ := hbi
    have hji := R.born_le h2 (R.wf (by omega) b y hy) (by omega) h1
    have hGb : aload P t ((frs i).eval x) G = aload P t ((frs i).eval x) (hs (max κ j)) := aload_local fun b' sz' i' j' e => by
      rw [hp] at e; cases e; exact h4
    rw [hGb]
    -- a chain of equal loads
    have stepEq : ∀ k, k < ops.size → j ≤ k → (∀ o', ops[k]? = some o' → (clsOf C o'.op).isW = true → ¬ Bf ops k i ∧ ¬ Bf ops i k) → aload P t ((frs i).eval x) (hs (k + 1)) = aload P t ((frs i).eval x) (hs k) := fun k hk hjk hc => by
      have hok : ops[k]? = some ops[k] := by simp [hk]
      cases hw : (clsOf C ops[k].op).isW with
      | true =>
        obtain ⟨b1, b2⟩ := hc _ hok hw
        exact (R.chk i k o ops[k] t x r.at_ hok ho hw b1 b2).symm
      | false =>
        refine aload_local fun b' sz' i' j' e => ?_
        rw [hp] at e; cases e
        exact ((R.shape k hk).2 _ hok).same hw b (R.born_lt h2 hjk (by omega))
    have chain : ∀ a c, j ≤ a → a ≤ c → c ≤ ops.size → (∀ k o', a ≤ k → k < c → ops[k]? = some o' → (clsOf C o'.op).isW = true → ¬ Bf ops k i ∧ ¬ Bf ops i k) → aload P t ((frs i).eval x) (hs c) = aload P t ((frs i).eval x) (hs a) := by
      intro a c hja
      induction c with
      | zero => intro h1 h2 h3; have : a = 0 := by omega
                subst this; rfl
      | succ c ih =>
        intro h1 h2 h3
        by_cases h : a = c + 1
        · subst h; rfl
        · rw [stepEq c (by omega) (by omega) fun o' q1 q2 => h3 c o' (by omega) (by omega) q1 q2]
          exact ih (by omega) (by omega) fun k o' q1 q2 => h3 k o' q1 (by omega)
    have hκ := S.le
    by_cases hc : κ ≤ i
    · refine (chain (max κ j) i (by omega) (by omega) (by omega) fun k o' q1 q2 q3 q4 => ?_).symm
      have hk : k < ops.size := by omega
      have hnD : ¬ D k := fun h => by have := (S.sep k o' q3 q4).1 h; omega
      refine ⟨fun h => hnD (r.bef k hk h), fun h => ?_⟩
      have := reg_lt R.reg r.at_ q3 h
      omega
    · rw [show max κ j = κ by omega]
      refine chain i κ (by omega) (by omega) (by omega) fun k o' q1 q2 q3 q4 => ?_
      have hk : k < ops.size := by omega
      have hD : D k := (S.sep k o' q3 q4).2 (by omega)
      refine ⟨fun h => ?_, r.after hk hD⟩
      have := reg_lt R.reg q3 r.at_ h
      omega
  · exact aload_local fun b sz q j e => (hp ⟨b, sz, q, j, e⟩).elim
end
end Go.Abs
