/-
  Regions that draw their order.
-/
import Derived.Test.YtgcfbommjdcgkaaAbs14
set_option linter.unusedSimpArgs false
set_option linter.unusedVariables false
namespace Go.Abs
section
variable {P : Program} {C : Tab} {ops : Array Oper} {frs : Nat → AFr} {hs : Nat → AHeap} {D A A' : Nat → Prop} {G G' : AHeap} {κ i : Nat} {o : Oper} {w w' : World} {F F' : Nat → Prop} {m m' : Nat → Nat}

theorem AHeap.eq_of {H G : AHeap} (h : H.next = G.next) (h' : H.get = G.get) : H = G := by cases H; cases G; simp at h h'; rw [h, h']

/-- The slots. -/
def FS (ops : Array Oper) (frs : Nat → AFr) (D : Nat → Prop) (w : World) (F A : Nat → Prop) (m : Nat → Nat) (tmps : Array Value) : Prop :=
  ∀ t, ∃ σ, σ ≤ ops.size ∧ (∀ k o, ops[k]? = some o → o.dst = some t → (D k ↔ k < σ)) ∧ RV w F A m (frs σ t) (tmps.getD t undef)

theorem Run.slot (R : Run P C ops frs hs) {t a : Nat} : ∀ {c : Nat}, a ≤ c → c ≤ ops.size → (∀ k o, a ≤ k → k < c → ops[k]? = some o → o.dst ≠ some t) → frs c t = frs a t
  | 0, hac, _, _ => by have : a = 0 := by omega
                       subst this; rfl
  | c + 1, hac, hc, hk => by
    by_cases h : a = c + 1
    · subst h; rfl
    · rw [← R.slot (c := c) (by omega) (by omega) fun k o h1 h2 => hk k o h1 (by omega)]
      have ho : ops[c]? = some ops[c] := by simp [show c < ops.size by omega]
      obtain ⟨z, _, h2⟩ := R.step c _ ho
      rw [h2]
      have hd := hk c _ (by omega) (by omega) ho
      cases hdst : ops[c].dst with
      | none => rfl
      | some d =>
        rw [hdst] at hd
        simp only [AFr.put]
        exact AFr.upd_ne _ _ _ _ fun e => hd (by rw [e])

theorem pairOk_apart {x y : Oper} (h : pairOk C ops x y = true) : Oper.apart ops x y = true := by
  simp only [pairOk, Bool.and_eq_true] at h; exact h.1

theorem FS.looks {tmps : Array Value} (S : FS ops frs D w F A m tmps) (R : Run P C ops frs hs) (r : Ready ops D i o) : ∃ fr : AFr, RF w F A m fr tmps ∧ ∀ t, t ∈ o.looksAt ops → fr t = frs i t := by
  refine ⟨fun t => frs (S t).choose t, fun t => (S t).choose_spec.2.2, fun t ht => ?_⟩
  obtain ⟨h1, h2, _⟩ := (S t).choose_spec
  dsimp only
  generalize (S t).choose = σ at h1 h2
  have hi := r.lt
  have low : ∀ k o', ops[k]? = some o' → o'.dst = some t → k < i → D k := fun k o' hk hd hki => by
    have hkl : k < ops.size := (Array.getElem?_eq_some_iff.1 hk).1
    rcases reg_pair R.reg hk r.at_ hki with h | h
    · exact r.bef k hkl h
    · exact ((Oper.apart_spec (pairOk_apart h)).1 t hd ht).elim
  have high : ∀ k o', ops[k]? = some o' → o'.dst = some t → i ≤ k → ¬ D k := fun k o' hk hd hki hD => by
    have hkl : k < ops.size := (Array.getElem?_eq_some_iff.1 hk).1
    by_cases he : k = i
    · exact r.new (he ▸ hD)
    · rcases reg_pair R.reg r.at_ hk (by omega) with h | h
      · exact r.after hkl hD h
      · exact (Oper.apart_spec (pairOk_apart h)).2.2 t hd ht
  by_cases hc : σ ≤ i
  · refine (R.slot hc (by omega) fun k o' q1 q2 q3 q4 => ?_).symm
    have := (h2 k o' q3 q4).1 (low k o' q3 q4 q2)
    omega
  · exact R.slot (by omega) h1 fun k o' q1 q2 q3 q4 => high k o' q3 q4 q1 ((h2 k o' q3 q4).2 q2)

theorem FS.put {a : Act} {z : AV} {v : Value} (S : FS ops frs D w F A m a.tmps) (R : Run P C ops frs hs) (r : Ready ops D i o) (hz : frs (i + 1) = (frs i).put o.dst z) (hd : ∀ d, o.dst = some d → d < a.tmps.size)
    (hm : ∀ x u, RV w F A m x u → RV w' F' A' m' x u) (hv : RV w' F' A' m' z v) : FS ops frs (With D i) w' F' A' m' (a.put o.dst v).tmps := by
  intro t
  have hi := r.lt
  by_cases ht : o.dst = some t
  · refine ⟨i + 1, hi, fun k o' hk hdk => ?_, ?_⟩
    · have hkl : k < ops.size := (Array.getElem?_eq_some_iff.1 hk).1
      refine ⟨fun h => ?_, fun h => ?_⟩
      · rcases h with h | rfl
        · refine Nat.lt_of_not_le fun hle => ?_
          rcases reg_pair R.reg r.at_ hk (by omega) with h' | h'
          · exact r.after hkl h h'
          · exact (Oper.apart_spec (pairOk_apart h')).2.1 t ht hdk
        · omega
      · by_cases he : k = i
        · exact .inr he
        · rcases reg_pair R.reg hk r.at_ (by omega) with h' | h'
          · exact .inl (r.bef k hkl h')
          · exact ((Oper.apart_spec (pairOk_apart h')).2.1 t hdk ht).elim
    · have hd := hd t ht
      rw [hz, ht]
      simp only [AFr.put, AFr.upd_eq, Act.put]
      simpa [hd] using hv
  · obtain ⟨σ, h1, h2, h3⟩ := S t
    refine ⟨σ, h1, fun k o' hk hdk => ?_, ?_⟩
    · rw [← h2 k o' hk hdk]
      refine ⟨fun h => h.resolve_right fun e => ?_, .inl⟩
      subst e
      rw [r.at_] at hk
      simp only [Option.some.injEq] at hk
      subst hk
      exact ht hdk
    · have e : (a.put o.dst v).tmps.getD t undef = a.tmps.getD t undef := by
        cases hdst : o.dst with
        | none => rfl
        | some d =>
          have hne : d ≠ t := fun e => ht (by rw [hdst, e])
          simp [Act.put, Array.getD_eq_getD_getElem?, Array.getElem?_setIfInBounds_ne hne]
      rw [e]; exact hm _ _ h3

theorem eval_looks {fr fr' : AFr} (h : ∀ t, t ∈ o.looksAt ops → fr t = fr' t) : ∀ x, x ∈ o.op.operands → fr.eval x = fr'.eval x := by
  intro x hx
  cases x with
  | tmp t => exact h t (List.mem_append_left _ (List.mem_filterMap.2 ⟨.tmp t, by simpa using hx, rfl⟩))
  | _ => rfl

theorem guard_looks {fr fr' : AFr} (h : ∀ t, t ∈ o.looksAt ops → fr t = fr' t) : aguard ops fr o = aguard ops fr' o := by
  unfold aguard
  split
  · rfl
  · rename_i j want hg
    split
    · rename_i t ht
      rw [h t (List.mem_append_right _ (by rw [hg]; dsimp only; rw [ht]; simp))]
    · rfl

theorem gets_inv (I : Inv w F A m G) (h : G'.get = G.get) : Inv w F A m G' :=
  ⟨fun b x hb => I.own b x (h ▸ hb), fun b x hb => I.blk b x (h ▸ hb), fun b b' x y h1 h2 => I.inj b b' x y (h ▸ h1) (h ▸ h2), I.bound⟩

theorem Evo.gets {H : AHeap} (E : Evo w F A m H w' F' A' m' G) (h : G'.get = G.get) : Evo w F A m H w' F' A' m' G' :=
  ⟨E.os, E.tape, E.output, E.size, E.shape, E.same, E.forb, E.keep, E.ext, fun b x hb => E.owns b x (h ▸ hb)⟩

theorem Evo.gets' {H H' : AHeap} (E : Evo w F A m H w' F' A' m' G) (h : H'.get = H.get) : Evo w F A m H' w' F' A' m' G :=
  ⟨E.os, E.tape, E.output, E.size, E.shape, fun cb h1 h2 => E.same cb h1 fun b x hb => h2 b x (h ▸ hb), E.forb, fun cb h1 h2 h3 => E.keep cb h1 h2 fun b x hb => h3 b x (h ▸ hb), E.ext,
    fun b x hb => (E.owns b x hb).imp (fun ⟨b0, x, h1, h2⟩ => ⟨b0, x, h ▸ h1, h2⟩) id⟩

/-- Operations that make a block. -/
theorem aop_al {ρ : Operand → AV} {H H' : AHeap} {o : Op} {z : AV} (h : aop P C ρ H o = some (z, H')) (hc : clsOf C o = .al) (A : Nat → Prop) : Loc A H H' (fun G => aop P C ρ G o) z := by
  cases o
  case alloc e => exact aalloc_local h A
  case box e x => exact abox_local h A
  case buildSlice t n parts => exact abuildSlice_local h A
  case makeSlice t l c => exact amake_local h A
  case call c =>
    exfalso
    obtain ⟨callee, args, argTypes⟩ := c
    cases callee with
    | value f =>
      cases f with
      | func g =>
        cases hg' : C g with
        | none => simp [clsOf, hg'] at hc
        | some k => cases k <;> simp [clsOf, hg'] at hc
      | _ => simp [clsOf] at hc
    | builtin b => cases b <;> simp [clsOf] at hc
    | invoke _ _ => simp [clsOf] at hc
  all_goals simp [clsOf] at hc

theorem Loc.next {H H' : AHeap} {run : AHeap → Option (AV × AHeap)} {z : AV} (hl : Loc A H H' run z) (hw : H.WF) : H'.next = H.next ∨ H'.next = H.next + 1 := by
  have hnone : H.get H.next = none := by
    cases h : H.get H.next with
    | none => rfl
    | some x => have := hw _ x h; omega
  obtain ⟨_, _, _, _, _, _, h⟩ := hl H (.inr ⟨rfl, hnone, hnone⟩) (fun _ _ _ h => h)
  exact h.imp (fun h => h.1) (fun h => h.1)

/-- One operation that is ready. -/
theorem draw_step (hC : Tab.Sound P C) (R : Run P C ops frs hs) (r : Ready ops D i o) (S : HS C ops hs D A G κ) (I : Inv w F A m G) {a : Act} (fs : FS ops frs D w F A m a.tmps) (hd : ∀ d, o.dst = some d → d < a.tmps.size)
    {K : Act → World → Prop} {Q : Exit → Act → World → Prop}
    (hk : ∀ v w' F' A' m' G' κ', HS C ops hs (With D i) A' G' κ' → Inv w' F' A' m' G' → FS ops frs (With D i) w' F' A' m' (a.put o.dst v).tmps → Evo w F A m G w' F' A' m' G' → K (a.put o.dst v) w') :
    wpOp P ops Q i K a w := by
  obtain ⟨fr, hf, hl⟩ := fs.looks R r
  obtain ⟨z, hz, hput⟩ := R.step i o r.at_
  have hsh := (R.shape i r.lt).2 o r.at_
  have hwf := (R.shape i r.lt).1
  have hgl := guard_looks hl
  have hev := eval_looks hl
  have dead : ∀ b, ¬ A b → G.get b = none := fun b hb => by
    cases h : G.get b with
    | none => rfl
    | some x => exact (hb (I.own b x h).1).elim
  unfold wpOp
  rw [r.at_]
  dsimp only
  -- nothing is done
  have skip : aguard ops (frs i) o = some false → z = .tup [] → hs (i + 1) = hs i → K (a.put o.dst undef) w := by
    intro _ hzu hH
    subst hzu
    cases hw : (clsOf C o.op).isW with
    | false => exact hk undef w F A m G κ (S.calm R r hw (.inl ⟨rfl, by rw [hH], rfl⟩)) I (fs.put R r hput hd (fun _ _ h => h) .skip) .refl
    | true =>
      exact hk undef w F A m G (i + 1) ((S.move R r hw).writer R r hw (fun _ => False) (fun _ h => h.elim) (fun _ h => h.elim) (fun _ _ => ⟨rfl, by rw [hH]⟩) (.inl ⟨rfl, by rw [hH]⟩)) I (fs.put R r hput hd (fun _ _ h => h) .skip) .refl
  by_cases hg : clsOf C o.op = .g
  · -- a call that works on memory
    unfold dstep at hz
    rw [hg] at hz
    dsimp only at hz
    unfold san at hz
    split at hz <;> try (cases hz; done)
    rename_i z' H1 hst
    split at hz <;> try (cases hz; done)
    rename_i hle
    simp only [Option.some.injEq, Prod.mk.injEq] at hz
    obtain ⟨rfl, hH⟩ := hz
    have hw : (clsOf C o.op).isW = true := by rw [hg]; rfl
    have S' := S.move R r hw
    rcases gd_some hst with ⟨hgt, hop⟩ | ⟨hgf, hzu, hH1⟩
    · have hwant := guard_sound (hgl.trans hgt) hf
      rw [hwant]
      simp only [if_true]
      refine .inl ?_
      obtain ⟨hA, hG⟩ := S'.call R r hg dead
      subst hA
      rw [← aop_congr _ _ hev] at hop
      refine aop_sound hC hop (gets_inv I hG.symm) hf fun v w' F' m' I' hv E => ?_
      have hN : Nx (hs (i + 1)) = Nx H1 := by rw [← hH]; rfl
      have hsub : ∀ b x, (hs (i + 1)).get b = some x → H1.get b = some x := fun b x h => by
        rw [← hH] at h
        dsimp only at h
        split at h
        · exact h
        · cases h
      have hsub' : (hs (i + 1)).get = H1.get := funext fun b => by
        cases h : H1.get b with
        | none =>
          cases h' : (hs (i + 1)).get b with
          | none => rfl
          | some x => rw [hsub b x h'] at h; cases h
        | some x =>
          have : b < H1.next := (I'.own b x h).1
          rw [← hH]
          dsimp only
          rw [if_pos this, h]
      have I2 : Inv w' F' (Nx (hs (i + 1))) m' (hs (i + 1)) := by rw [hN]; exact gets_inv I' hsub'
      have E2 : Evo w F (Nx (hs i)) m G w' F' (Nx (hs (i + 1))) m' (hs (i + 1)) := by rw [hN]; exact (E.gets hsub').gets' hG
      refine hk v w' F' _ m' (hs (i + 1)) (i + 1) (S'.called R r hw rfl) I2 (fs.put R r hput hd (fun x u h => E2.rv I h) (by rw [hN]; exact hv)) E2
    · have hwant := guard_sound (hgl.trans hgf) hf
      rw [hwant]
      simp only [Bool.false_eq_true, if_false]
      refine skip hgf hzu ?_
      subst hH1
      rw [← hH]
      refine AHeap.eq_of rfl (funext fun b => ?_)
      dsimp only
      split
      · rfl
      · rename_i hb
        cases h : (hs i).get b with
        | none => rfl
        | some x => exact (hb (hwf b x h)).elim
  · have hst : astep P C ops (frs i) (hs i) o = some (z, hs (i + 1)) := by
      unfold dstep at hz
      split at hz
      · rename_i h; exact (hg h).elim
      · exact hz
    rcases gd_some hst with ⟨hgt, hop⟩ | ⟨hgf, hzu, hH1⟩
    · have hwant := guard_sound (hgl.trans hgt) hf
      rw [hwant]
      simp only [if_true]
      refine .inl ?_
      have hop0 := hop
      rw [← aop_congr _ _ hev] at hop
      -- it is done over the blocks that there are
      have go : ∀ (G0 G1 : AHeap) (κ' : Nat), G0.get = G.get → ¬ A G0.next → aop P C fr.eval G0 o.op = some (z, G1) →
          (∀ A', ((A' = A ∧ G1.next = G0.next) ∨ (A' = withB A G0.next ∧ G1.next = G0.next + 1)) → HS C ops hs (With D i) A' G1 κ') → o.wp P a w K Q := by
        intro G0 G1 κ' hG0 hn hop hS
        refine aop_any hC hop hg (gets_inv I hG0) hn hf fun v w' F' m' A' I' hv E hA => ?_
        exact hk v w' F' A' m' G1 κ' (hS A' hA) I' (fs.put R r hput hd (fun x u h => (E.gets' hG0.symm).rv I h) hv) (E.gets' hG0.symm)
      have fr' := S.fresh' R
      have wr : (clsOf C o.op = .al ∨ clsOf C o.op = .w ∨ clsOf C o.op = .wa) → (clsOf C o.op).isW = true → o.wp P a w K Q := by
        intro hc hw
        have S' := S.move R r hw
        have hloc := aop_loc hop hc hf
        rcases hloc.next hwf with hn | hn
        · obtain ⟨G1, T, q1, q2, q3, q4, q5⟩ := hloc { next := (hs ops.size).next, get := G.get } (.inl hn) (S'.has R)
          have q6 : G1.next = (hs ops.size).next := by
            rcases q5 with ⟨_, q⟩ | ⟨q, _⟩
            · exact q
            · omega
          refine go { next := (hs ops.size).next, get := G.get } G1 (i + 1) rfl fr' q1 fun A' hA => S'.writer R r hw T q2 q3 q4 (.inl ⟨?_, hn⟩)
          rcases hA with ⟨h, _⟩ | ⟨_, h⟩
          · exact h
          · rw [q6] at h; simp at h
        · have hfresh := S.fresh R r hn
          obtain ⟨G1, T, q1, q2, q3, q4, q5⟩ := hloc { next := (hs i).next, get := G.get } (.inr ⟨rfl, dead _ hfresh, by
            cases h : (hs i).get (hs i).next with
            | none => rfl
            | some x => have := hwf _ x h; omega⟩) (S'.has R)
          have q6 : G1.next = (hs i).next + 1 ∧ T (hs i).next := by
            rcases q5 with ⟨q, _⟩ | ⟨_, q, q'⟩
            · omega
            · exact ⟨q, q'⟩
          refine go { next := (hs i).next, get := G.get } G1 (i + 1) rfl hfresh q1 fun A' hA => S'.writer R r hw T q2 q3 q4 (.inr ⟨?_, hn, q6.2⟩)
          rcases hA with ⟨_, h⟩ | ⟨h, _⟩
          · rw [q6.1] at h; simp at h
          · exact h
      cases hc : clsOf C o.op with
      | g => exact (hg hc).elim
      | p =>
        obtain ⟨h1, h2⟩ := aop_same hop hc
        refine go { next := (hs ops.size).next, get := G.get } _ κ rfl fr' (h2 _) fun A' hA => ?_
        refine S.calm R r (by rw [hc]; rfl) (.inl ⟨?_, by rw [h1], rfl⟩)
        rcases hA with ⟨h, _⟩ | ⟨_, h⟩
        · exact h
        · simp at h
      | l =>
        cases hop' : o.op with
        | load t x =>
          rw [hop'] at hop hop0
          simp only [aop, lift] at hop hop0
          split at hop0 <;> try (cases hop0; done)
          rename_i y hy
          simp only [Option.some.injEq, Prod.mk.injEq] at hop0
          obtain ⟨rfl, hH⟩ := hop0
          have hx : fr.eval x = (frs i).eval x := hev x (by rw [hop']; simp [Op.operands])
          have hv := hf.eval x
          rw [hx] at hv
          have hld := S.load R r hop' hy hv
          refine go { next := (hs ops.size).next, get := G.get } { next := (hs ops.size).next, get := G.get } κ rfl fr' ?_ fun A' hA => ?_
          · rw [hop']
            simp only [aop, lift]
            rw [hx]
            have : aload P t ((frs i).eval x) { next := (hs ops.size).next, get := G.get } = aload P t ((frs i).eval x) G := aload_local fun _ _ _ _ _ => rfl
            rw [this, hld]
          · refine S.calm R r (by rw [hc]; rfl) (.inl ⟨?_, by rw [hH], rfl⟩)
            rcases hA with ⟨h, _⟩ | ⟨_, h⟩
            · exact h
            · simp at h
        | call c =>
          exfalso
          obtain ⟨callee, args, argTypes⟩ := c
          rw [hop'] at hc
          cases callee with
          | value f =>
            cases f with
            | func g =>
              cases hg' : C g with
              | none => simp [clsOf, hg'] at hc
              | some k => cases k <;> simp [clsOf, hg'] at hc
            | _ => simp [clsOf] at hc
          | builtin b => cases b <;> simp [clsOf] at hc
          | invoke _ _ => simp [clsOf] at hc
        | _ => rw [hop'] at hc; simp [clsOf] at hc
      | al =>
        have hloc := aop_al hop hc fun _ => False
        rcases hloc.next hwf with hn | hn
        · obtain ⟨G1, T, q1, q2, q3, q4, q5⟩ := hloc { next := (hs ops.size).next, get := G.get } (.inl hn) (fun b x h => h.elim)
          refine go { next := (hs ops.size).next, get := G.get } G1 κ rfl fr' q1 fun A' hA => S.calm R r (by rw [hc]; rfl) (.inl ⟨?_, hn, funext fun b => ?_⟩)
          · rcases hA with ⟨h, _⟩ | ⟨_, h⟩
            · exact h
            · rcases q5 with ⟨_, q⟩ | ⟨q, _⟩
              · rw [q] at h; simp at h
              · omega
          · refine (q4 b fun ht => ?_).1
            rcases q2 b ht with ⟨h, _⟩ | ⟨_, h⟩
            · exact h
            · omega
        · have hfresh := S.fresh R r hn
          obtain ⟨G1, T, q1, q2, q3, q4, q5⟩ := hloc { next := (hs i).next, get := G.get } (.inr ⟨rfl, dead _ hfresh, by
            cases h : (hs i).get (hs i).next with
            | none => rfl
            | some x => have := hwf _ x h; omega⟩) (fun b x h => h.elim)
          have q6 : G1.next = (hs i).next + 1 ∧ T (hs i).next := by
            rcases q5 with ⟨q, _⟩ | ⟨_, q, q'⟩
            · omega
            · exact ⟨q, q'⟩
          refine go { next := (hs i).next, get := G.get } G1 κ rfl hfresh q1 fun A' hA => S.calm R r (by rw [hc]; rfl) (.inr ⟨?_, hn, q3 _ q6.2, fun b hb => ?_⟩)
          · rcases hA with ⟨_, h⟩ | ⟨h, _⟩
            · rw [q6.1] at h; simp at h
            · exact h
          · refine (q4 b fun ht => ?_).1
            rcases q2 b ht with ⟨h, _⟩ | ⟨h, _⟩
            · exact h
            · exact hb h
      | w => exact wr (.inr (.inl hc)) (by rw [hc]; rfl)
      | wa => exact wr (.inr (.inr hc)) (by rw [hc]; rfl)
    · have hwant := guard_sound (hgl.trans hgf) hf
      rw [hwant]
      simp only [Bool.false_eq_true, if_false]
      exact skip hgf hzu hH1
end
end Go.Abs
