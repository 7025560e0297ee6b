/-
  What an operation does over other blocks.
-/
import Derived.Test.YtgcfbommjdcgkaaAbs10
set_option linter.unusedSimpArgs false
set_option linter.unusedVariables false
namespace Go.Abs
section
variable {P : Program} {C : Tab} {w : World} {F A : Nat → Prop} {m : Nat → Nat} {H G H' : AHeap}

theorem loc_set {b : Nat} {blk : Blk} {x : Option Blk} {z : AV} {run : AHeap → Option (AV × AHeap)} (hA : A b) (hb : H.get b = some blk)
    (hr : ∀ G, G.get b = some blk → run G = some (z, G.set b x)) : Loc A H (H.set b x) run z := by
  intro G _ hG
  refine ⟨G.set b x, fun b' => b' = b, hr G (hG b blk hA hb), fun b' hb' => ?_, fun b' hb' => ?_, fun b' hb' => ?_, .inl ⟨rfl, rfl⟩⟩
  · have hb' : b' = b := hb'
    subst hb'; exact .inl ⟨hA, blk, hb⟩
  · have hb' : b' = b := hb'
    subst hb'; simp [AHeap.set]
  · have hb' : b' ≠ b := hb'
    simp [AHeap.set, hb']

theorem astore_local {t : TypeId} {p x : AV} {u : Value} (h : astore P t p x H = some H') (hp : RV w F A m p u) : Loc A H H' (fun G => liftS (astore P t p x G)) .undef := by
  unfold astore astoreR at h
  split at h <;> try (cases h; done)
  rename_i b sz i j
  cases hp with
  | ptr _ _ _ _ hA =>
    split at h <;> try (cases h; done)
    rename_i blk cs n hb hcs hk
    split at h <;> try (cases h; done)
    rename_i hc
    split at h <;> try (cases h; done)
    rename_i row hrow
    split at h <;> try (cases h; done)
    rename_i hle
    simp only [Option.some.injEq] at h
    subst h
    refine loc_set hA hb fun G hg => ?_
    unfold astore astoreR
    dsimp only
    rw [hg, hcs, hk]
    dsimp only
    rw [if_pos hc, hrow]
    dsimp only
    rw [if_pos hle]
    rfl

theorem callP_local {keep : Bool} {spec : List AV → Option AV} {l : List (List (Option Nat))} {args : List AV} {vs : List Value} {z : AV} (h : callP keep spec l args H = some (z, H')) (ha : RL w F A m args vs) :
    Loc A H H' (callP keep spec l args) z := by
  intro G _ hG
  unfold callP at h
  split at h <;> try (cases h; done)
  rename_i args' S hfr
  split at h <;> try (cases h; done)
  rename_i r hr
  split at h <;> try (cases h; done)
  rename_i hcd
  obtain ⟨q1, q2⟩ := frzArgs_local l args args' S vs hfr ha hG
  unfold callP
  rw [q1]
  dsimp only
  rw [hr]
  dsimp only
  rw [if_pos hcd]
  split at h
  · rename_i hc
    simp only [Option.some.injEq, Prod.mk.injEq] at h
    obtain ⟨rfl, rfl⟩ := h
    rw [if_pos hc]
    exact ⟨G, fun _ => False, rfl, fun _ h => h.elim, fun _ h => h.elim, fun _ _ => ⟨rfl, rfl⟩, .inl ⟨rfl, rfl⟩⟩
  · rename_i hc
    simp only [Option.some.injEq, Prod.mk.injEq] at h
    obtain ⟨rfl, rfl⟩ := h
    rw [if_neg hc]
    refine ⟨G.killAll S, fun b => b ∈ S, rfl, fun b hb => .inl (q2 b hb), fun b hb => ?_, fun b hb => ?_, .inl ⟨rfl, rfl⟩⟩
    · have hb : b ∈ S := hb
      simp [AHeap.killAll, hb]
    · have hb : b ∉ S := hb
      simp [AHeap.killAll, hb]

theorem rowsOf_local {x : AV} {sz : Nat} {u : Value} {r : List (List AV) × Bool} (h : rowsOf x sz H = some r) (hx : RV w F A m x u) (hG : Has A H G) : rowsOf x sz G = some r := by
  unfold rowsOf at h ⊢
  split at h <;> try exact h
  cases hx with
  | sl b sz off len cap e hA _ _ _ =>
    split at h <;> try (cases h; done)
    rename_i blk hb
    rw [hG _ _ hA hb]
    exact h

theorem aappend_local {t : TypeId} {s x z : AV} {u v : Value} (h : aappend P t s x H = some (z, H')) (hs : RV w F A m s u) (hx : RV w F A m x v) : Loc A H H' (aappend P t s x) z := by
  intro G hn0 hG
  have hnx := aappend_next h
  obtain ⟨hn, hg0, hh0⟩ := hn0.resolve_left (by omega)
  clear hn0 hnx
  unfold aappend aappendR at h
  split at h <;> try (cases h; done)
  rename_i _ k hk
  split at h <;> try (cases h; done)
  rename_i new fl hrows
  split at h <;> try (cases h; done)
  rename_i hby
  have hrow' := rowsOf_local (G := G) hrows hx hG
  split at h
  · split at h <;> try (cases h; done)
    rename_i hlen
    split at h
    · rename_i hnew
      simp only [Option.some.injEq, Prod.mk.injEq] at h
      obtain ⟨rfl, rfl⟩ := h
      refine ⟨{ next := G.next + 1, get := G.get }, fun b => b = H.next, (by unfold aappend aappendR; rw [hk]; dsimp only; rw [hrow']; dsimp only; rw [if_pos hby]; rw [if_pos hlen, if_pos hnew]), fun b hb => .inr ⟨hb, rfl⟩, fun b hb => ?_, fun b _ => ⟨rfl, rfl⟩, .inr ⟨rfl, rfl, rfl⟩⟩
      have hb : b = H.next := hb
      subst hb
      simp [hg0, hh0]
    · rename_i hnew
      simp only [Option.some.injEq, Prod.mk.injEq] at h
      obtain ⟨rfl, rfl⟩ := h
      refine ⟨G.push { e := k.e, sz := k.size, flat := fl, rows := new }, fun b => b = H.next, (by unfold aappend aappendR; rw [hk]; dsimp only; rw [hrow']; dsimp only; rw [if_pos hby]; rw [if_pos hlen, if_neg hnew, hn]), fun b hb => .inr ⟨hb, rfl⟩, fun b hb => ?_, fun b hb => ?_, .inr ⟨rfl, rfl, rfl⟩⟩
      · have hb : b = H.next := hb
        subst hb; simp [AHeap.push, hn]
      · have hb : b ≠ H.next := hb
        simp [AHeap.push, hn, hb]
  · rename_i _ b sz len
    split at h <;> try (cases h; done)
    rename_i blk hb
    split at h <;> try (cases h; done)
    rename_i hc
    simp only [Option.some.injEq, Prod.mk.injEq] at h
    obtain ⟨rfl, rfl⟩ := h
    cases hs with
    | sl _ _ _ _ cap e hA _ _ _ =>
      refine ⟨(G.set b none).push { e := k.e, sz, flat := blk.flat && fl, rows := blk.rows ++ new }, fun b' => b' = b ∨ b' = H.next, (by unfold aappend aappendR; rw [hk]; dsimp only; rw [hrow']; dsimp only; rw [if_pos hby]; simp only [hG b blk hA hb]; rw [if_pos hc, hn]), fun b' hb' => ?_, fun b' hb' => ?_, fun b' hb' => ?_, .inr ⟨rfl, rfl, .inr rfl⟩⟩
      · rcases hb' with hb' | hb'
        · subst hb'; exact .inl ⟨hA, blk, hb⟩
        · exact .inr ⟨hb', rfl⟩
      · rcases hb' with hb' | hb'
        · subst hb'; simp [AHeap.push, AHeap.set, hn]
        · subst hb'; simp [AHeap.push, AHeap.set, hn]
      · have hb' : ¬ (b' = b ∨ b' = H.next) := hb'
        simp only [not_or] at hb'
        simp [AHeap.push, AHeap.set, hn, hb'.1, hb'.2]
  · cases h

theorem aload_local {t : TypeId} {p : AV} (h : ∀ b sz i j, p = .ptr b sz i j → G.get b = H.get b) : aload P t p G = aload P t p H := by
  cases p <;> first | rfl | skip
  rename_i b sz i j
  unfold aload aloadR
  dsimp only
  rw [h b sz i j rfl]

/-- Operations of the classes al, w, wa. -/
theorem aop_loc {fr : AFr} {a : Act} {o : Op} {z : AV} (h : aop P C fr.eval H o = some (z, H')) (hc : clsOf C o = .al ∨ clsOf C o = .w ∨ clsOf C o = .wa) (hf : RF w F A m fr a.tmps) :
    Loc A H H' (fun G => aop P C fr.eval G o) z := by
  cases o
  case alloc e => exact aalloc_local h A
  case box e x => exact abox_local h A
  case buildSlice t n parts => exact abuildSlice_local h A
  case makeSlice t l c => exact amake_local h A
  case store t x y =>
    simp only [aop] at h ⊢
    unfold liftS at h
    split at h <;> try (cases h; done)
    rename_i H1 hs
    simp only [Option.some.injEq, Prod.mk.injEq] at h
    obtain ⟨rfl, rfl⟩ := h
    exact astore_local hs (hf.eval x)
  case call c =>
    obtain ⟨callee, args, argTypes⟩ := c
    simp only [aop, acallOp] at h ⊢
    cases callee with
    | invoke r n => simp [clsOf] at hc
    | builtin b =>
      by_cases hb : b = .append
      · subst hb
        dsimp only at h ⊢
        split at h <;> try (cases h; done)
        rename_i s x t t' ha ht
        split at h <;> try (cases h; done)
        rename_i htt
        subst htt
        simp only [if_pos]
        exact aappend_local h (hf.eval s) (hf.eval x)
      · cases b <;> first | exact absurd rfl hb | (simp [clsOf] at hc)
    | value f =>
      cases f with
      | func g =>
        have hsp : ∃ keep spec, C g = some (.pure keep spec) := by
          cases hg : C g with
          | none => simp [clsOf, hg] at hc
          | some k => cases k with
            | pure keep spec => exact ⟨keep, spec, rfl⟩
            | ref fz spec => simp [clsOf, hg] at hc
        obtain ⟨keep, spec, hsp⟩ := hsp
        simp only [acallClo, AFr.eval, hsp, List.nil_append, List.append_nil] at h ⊢
        unfold acallR at h ⊢
        cases ht : tysOf P argTypes.toList with
        | none => simp [ht] at h
        | some l =>
          simp only [ht] at h ⊢
          refine callP_local (w := w) (F := F) (m := m) (vs := args.toList.map a.eval) h ⟨by simp, fun i x y h1 h2 => ?_⟩
          simp only [List.getElem?_map, Option.map_eq_some_iff] at h1 h2
          obtain ⟨p0, e1, rfl⟩ := h1
          obtain ⟨p1, e2, rfl⟩ := h2
          rw [e1] at e2
          simp only [Option.some.injEq] at e2
          subst e2
          exact hf.eval _
      | tmp t => simp [clsOf] at hc
      | const v => simp [clsOf] at hc
      | global g => simp [clsOf] at hc
  all_goals simp [clsOf] at hc

/-- Operations that turn no memory. -/
theorem aop_same {ρ : Operand → AV} {o : Op} {z : AV} (h : aop P C ρ H o = some (z, H')) (hc : clsOf C o = .p) : H' = H ∧ ∀ G, aop P C ρ G o = some (z, G) := by
  have key : ∀ {x : Option AV}, lift x H = some (z, H') → H' = H ∧ ∀ G, lift x G = some (z, G) := by
    intro x h
    unfold lift at h
    split at h <;> try (cases h; done)
    simp only [Option.some.injEq, Prod.mk.injEq] at h
    obtain ⟨rfl, rfl⟩ := h
    exact ⟨rfl, fun G => rfl⟩
  cases o
  case call c =>
    obtain ⟨callee, args, argTypes⟩ := c
    simp only [aop, acallOp] at h ⊢
    cases callee with
    | invoke r n => simp [clsOf] at hc
    | builtin b => cases b <;> first | exact key h | (simp [clsOf] at hc)
    | value f =>
      cases f with
      | func g =>
        exfalso
        cases hg : C g with
        | none => simp [clsOf, hg] at hc
        | some k => cases k <;> simp [clsOf, hg] at hc
      | _ => simp [clsOf] at hc
  all_goals first
    | (simp [clsOf] at hc; done)
    | (simp only [aop] at h ⊢; exact key h)

/-- A call of what works on contents, whatever blocks there are. -/
theorem callP_sound {f : FuncId} {keep : Bool} {spec : List AV → Option AV} {l : List (List (Option Nat))} {args : List AV} {vs : Array Value} {z : AV} (h : callP keep spec l args H = some (z, H')) (hc : Sound P f (.pure keep spec))
    (I : Inv w F A m H) (ha : RLs w F A m args vs) :
    Callable P f ∧ Calls P f vs w fun e w' => ∃ v F' m', e = .returned v ∧ Inv w' F' A m' H' ∧ RV w' F' A m' z v ∧ Evo w F A m H w' F' A m' H' := by
  obtain ⟨hcl, hs⟩ := hc
  refine ⟨hcl, ?_⟩
  unfold callP at h
  split at h <;> try (cases h; done)
  rename_i args' S hfr
  split at h <;> try (cases h; done)
  rename_i r hr
  split at h <;> try (cases h; done)
  rename_i hcd
  obtain ⟨q1, q2⟩ := frzArgs_sound I l args args' S vs.toList hfr ha
  refine (hs args' r hr w (less F m S) vs (fun cb h => I.bound cb h.1) q1).mono ?_
  rintro e w' ⟨v, rfl, hb, hv⟩
  split at h
  · rename_i hcase
    simp only [Option.some.injEq, Prod.mk.injEq] at h
    obtain ⟨rfl, rfl⟩ := h
    refine ⟨v, F, m, rfl, inv_below I hb, ?_, evo_below hb⟩
    rcases hcase with rfl | hns | rfl
    · have : less F m [] = F := by funext cb; simp [less]
      rw [this] at hv
      exact (hv.mono (F' := F) (Nat.le_refl _) (fun _ _ => rfl) (fun _ _ _ => rfl) (fun _ _ h => .inl h) (fun _ h => ⟨h, rfl⟩)).closed_any hcd
    · exact hv.noSl_any hns
    · exact (hv.mono (F' := F) (Nat.le_refl _) (fun _ _ => rfl) (fun _ _ _ => rfl) (fun cb _ h => .inr ⟨rfl, I.bound cb h⟩) (fun _ h => ⟨h, rfl⟩)).closed_any hcd
  · simp only [Option.some.injEq, Prod.mk.injEq] at h
    obtain ⟨rfl, rfl⟩ := h
    obtain ⟨I1, E1⟩ := killAll_sound I q2
    exact ⟨v, less F m S, m, rfl, inv_below I1 hb, (hv.mono (F' := less F m S) (Nat.le_refl _) (fun _ _ => rfl) (fun _ _ _ => rfl) (fun _ _ h => .inl h) (fun _ h => ⟨h, rfl⟩)).closed_any hcd, E1.trans (evo_below hb)⟩

/-- Every operation but those that call what works on memory, whatever blocks there are. -/
theorem aop_any (hC : Tab.Sound P C) {fr : AFr} {a : Act} {o : Oper} {z : AV} (h : aop P C fr.eval H o.op = some (z, H')) (hg : clsOf C o.op ≠ .g) (I : Inv w F A m H) (hn : ¬ A H.next) (hf : RF w F A m fr a.tmps)
    {next : Act → World → Prop} {Q : Exit → Act → World → Prop}
    (hk : ∀ r w' F' m' A', Inv w' F' A' m' H' → RV w' F' A' m' z r → Evo w F A m H w' F' A' m' H' → ((A' = A ∧ H'.next = H.next) ∨ (A' = withB A H.next ∧ H'.next = H.next + 1)) → next (a.put o.dst r) w') : o.wp P a w next Q := by
  by_cases hc : ∀ c, o.op = .call c → ∀ f, c.callee ≠ .value f
  · obtain ⟨n, r, w', A', hr, ⟨F', m', h1, h2, h3⟩, hA⟩ := aop_alone h hc I hn hf
    have hA' : (A' = A ∧ H'.next = H.next) ∨ (A' = withB A H.next ∧ H'.next = H.next + 1) := hA.imp (fun h => h.2) (fun h => h.2)
    unfold Oper.wp
    rcases hr with hr | ⟨hr, rfl⟩
    · rw [hr]; exact hk r w' F' m' A' h1 h2 h3 hA'
    · rw [hr]; exact hk undef w' F' m' A' h1 h2 h3 hA'
  · obtain ⟨dst, op, type, pos, after, guard⟩ := o
    obtain ⟨c, hc⟩ := Classical.not_forall.1 hc
    obtain ⟨hcc, hc⟩ := Classical.not_forall.1 hc
    obtain ⟨f, hc⟩ := Classical.not_forall.1 hc
    have hcf := Classical.not_not.1 hc
    simp only at hcc
    subst hcc
    obtain ⟨callee, args, argTypes⟩ := c
    simp only at hcf
    subst hcf
    cases f with
    | func g =>
      have hsp : ∃ keep spec, C g = some (.pure keep spec) := by
        cases hg' : C g with
        | none => simp [clsOf, hg'] at hg
        | some k => cases k with
          | pure keep spec => exact ⟨keep, spec, rfl⟩
          | ref fz spec => simp [clsOf, hg'] at hg
      obtain ⟨keep, spec, hsp⟩ := hsp
      simp only [aop, acallOp, acallClo, AFr.eval, hsp, List.nil_append, List.append_nil] at h
      unfold acallR at h
      cases ht : tysOf P argTypes.toList with
      | none => simp [ht] at h
      | some l =>
        simp only [ht] at h
        have hargs : RLs w F A m (args.toList.map fr.eval) (args.map a.eval) := by
          refine ⟨by simp, fun i x y h1 h2 => ?_⟩
          simp only [Array.toList_map, List.getElem?_map, Option.map_eq_some_iff] at h1 h2
          obtain ⟨p0, e1, rfl⟩ := h1
          obtain ⟨p1, e2, rfl⟩ := h2
          rw [e1] at e2
          simp only [Option.some.injEq] at e2
          subst e2
          exact hf.eval _
        obtain ⟨hcl, hcalls⟩ := callP_sound h (hC g _ hsp) I hargs
        have hrun : (execOp a.eval { dst, op := .call { callee := .value (.func g), args, argTypes }, type, pos, after, guard }).run P w = .ok (.enter g (args.map a.eval)) w := by
          have := hcl (#[] ++ (args.map a.eval ++ #[])) w
          simpa [execOp, resolve, Deferred.ofValue, Act.eval, invoke] using this
        unfold Oper.wp
        rw [hrun]
        refine Calls.mono hcalls ?_
        rintro e w' ⟨v, F', m', rfl, p1, p2, p3⟩
        have hnx : H'.next = H.next := by
          unfold callP at h
          repeat' split at h
          all_goals first | (cases h; done) | (simp only [Option.some.injEq, Prod.mk.injEq] at h; rw [← h.2]; rfl) | (simp only [Option.some.injEq, Prod.mk.injEq] at h; rw [← h.2])
        exact hk v w' F' m' A p1 p2 p3 (.inl ⟨rfl, hnx⟩)
    | _ => simp [clsOf] at hg
end
end Go.Abs
