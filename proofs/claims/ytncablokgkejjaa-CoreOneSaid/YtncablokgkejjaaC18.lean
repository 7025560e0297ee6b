/-
  The law that an instruction sets its own register and hangs on what it reads: the whole.
-/
import Derived.Test.YtncablokgkejjaaC17
set_option linter.unusedSimpArgs false
set_option linter.unusedVariables false
namespace Go.Abs
open Th
theorem memBump (B : AHeap) (b wb : Nat) (m : MemM) (n : Nat) : (B.mem b wb m).bump n = (B.bump n).mem b wb m :=
  mem_of _ _ _ _ _ (by simp) fun c => by rw [bumpGet, mem_get, bumpGet]
theorem memKill (B : AHeap) (b wb : Nat) (m : MemM) (S : List Nat) (h1 : b ∉ S) (h2 : wb ∉ S) : (B.mem b wb m).killAll S = (B.killAll S).mem b wb m := by
  refine mem_of _ _ _ _ _ (by simp) fun c => ?_
  rw [AHeap.get_killAll, mem_get, AHeap.get_killAll]
  by_cases e1 : c = b
  · subst e1; rw [if_neg h1, if_pos rfl, if_pos rfl]
  · by_cases e2 : c = wb
    · subst e2; rw [if_neg h2, if_neg e1, if_pos rfl, if_neg e1, if_pos rfl]
    · rw [if_neg e1, if_neg e2, if_neg e1, if_neg e2]
theorem copy_of (s t : StM) (v : AV) (L : List Int) (hlen : L.length ≤ 8) (hL : ∀ x ∈ L, ∃ r : Nat, r < 8 ∧ x = r) {X : AHeap} {r} (hr : aloop oneL0 (AFr.al [(2, .ptr 0 5 0 0), (5, v), (7, .ptr 2 13 0 0), (8, .ptr 3 13 0 0), (9, .rsl 1 (ints L)), (10, .int .i64 0)]) X = r) (hw : X.WF) (g2 : X.get 2 = some (stBlk s)) (g3 : X.get 3 = some (stBlk t)) :
    ∃ X' : AHeap, r = some (.exit 0, AFr.al [(2, .ptr 0 5 0 0), (5, v), (7, .ptr 2 13 0 0), (8, .ptr 3 13 0 0), (9, .rsl 1 (ints L)), (10, .int .i64 L.length), (39, .bool false)], X') ∧ X'.next = X.next ∧ X'.WF ∧ (∀ c, c ≠ 3 → X'.get c = X.get c) ∧ X'.get 3 = some (stBlk (copyR s L t)) := by
  obtain ⟨X', p1, p2⟩ := copy_loop s v L hlen hL L.length 0 t X (by omega) hw g2 g3
  exact ⟨X', hr.symm.trans p1, p2⟩
theorem regs_of (a b xs ys : StM) (px py : Nat) (e dd : Int) (w : Bool) {X : AHeap} {r} (hr : aloop oneL1 (AFr.al [(7, .ptr 2 13 0 0), (8, .ptr 3 13 0 0), (13, .ptr px 13 0 0), (15, .int .i64 e), (16, .ptr py 13 0 0), (19, .int .i64 dd), (20, .bool w), (21, .int .i64 0)]) X = r) (g2 : X.get 2 = some (stBlk a)) (g3 : X.get 3 = some (stBlk b)) (gx : X.get px = some (stBlk xs)) (gy : X.get py = some (stBlk ys))
    (h1 : ∀ r : Nat, r < 8 → w = true → dd = (r : Nat) → e = 0 → xs.reg r = ys.reg r)
    (h2 : ∀ r : Nat, r < 8 → ¬ (w = true ∧ dd = (r : Nat) ∧ e = 0) → xs.reg r = a.reg r ∧ ys.reg r = b.reg r) : ∃ fr', r = some (.exit 2, fr', X) := by
  obtain ⟨fr', p⟩ := regs_loop a b xs ys px py e dd w X g2 g3 gx gy h1 h2 8 0 [] (by omega)
  exact ⟨fr', hr.symm.trans p⟩
set_option maxHeartbeats 8000000 in
theorem coreOne_law (i : InsM) (s t : StM) : law06_CoreOne.spec [InsAV i, .agg (s.cells ++ t.cells)] = some (.bool true) := by
  have hP := rPut_eq i
  have hRd := rReads_eq i
  have hWr := rWrites_eq i
  have hpm := putM_ok i
  have htk := fun h => putM_take (i := i) h
  have hlt : ∀ x ∈ readsL i, ∃ r : Nat, r < 8 ∧ x = r := fun x hx => upF_lt _ x 8 0 (by omega) hx
  have hln : (readsL i).length ≤ 8 := upF_length _ 8 0
  have hin : ∀ r : Nat, r < 8 → readB i r = true → (r : Int) ∈ readsL i := fun r hr h => upF_mem _ r 8 0 (by omega) (by omega) h
  have hs : (s.cells ++ t.cells).take 13 = s.cells := List.take_left' (by simp)
  have ht : (s.cells ++ t.cells).drop 13 = t.cells := List.drop_left' (by simp)
  unfold InsAV at hP hWr hRd ⊢
  generalize putM i = p at *
  obtain ⟨h, e⟩ := p
  dsimp only at *
  by_cases he : e = 0
  · subst he
    replace htk := htk (hpm.1 rfl)
    simp -implicitDefEqProofs +contextual (disch := omega) [law06_CoreOne.spec, law06_CoreOne, hP, hRd, hs, ht]
    generalize hr : aloop _ _ _ = r
    obtain ⟨X, rfl, hn, hw, hX, x3⟩ := copy_of s t _ (readsL i) hln hlt hr (by (repeat' (first | assumption | with_reducible apply AHeap.WF.push | with_reducible apply AHeap.WF.set | exact AHeap.WF.empty)) <;> (simp <;> omega)) (by simp [stBlk_def]) (by simp [stBlk_def])
    have x0 := hX 0 (by omega)
    have x2 := hX 2 (by omega)
    simp at hn x0 x2
    clear hr hX
    have hk : ∀ r : Nat, r < 8 → readB i r = true → (copyR s (readsL i) t).reg r = s.reg r := fun r hr h => copyR_keep s _ t r hr hlt (.inl (hin r hr h))
    generalize copyR s (readsL i) t = t1 at *
    simp only [stBlk_def] at x3
    have hN := fun H => new_eq H [h, 1#16, 2#16, 3#16] [9#32] 4 (by simp) (by simp)
    simp only [w16s, w32s, List.map_cons, List.map_nil, List.length_cons, List.length_nil, Nat.zero_add, Nat.reduceAdd] at hN
    simp -implicitDefEqProofs +contextual (disch := omega) [hn, x0, x2, x3, hN]
    simp -implicitDefEqProofs (disch := try first | omega | (simp [hn]; done)) only [memBump, memKill, memPush]
    generalize hC : AHeap.bump (AHeap.killAll _ _) 2 = C
    have hm := new_ok [h, 1#16, 2#16, 3#16] [9#32] 4 (by simp)
    have hcd : (MemM.new [h, 1#16, 2#16, 3#16] 4 [9#32]).code = [h, 1#16, 2#16, 3#16] := by simp [MemM.new]
    have hwd : (MemM.new [h, 1#16, 2#16, 3#16] 4 [9#32]).words.length = 4 := by simp only [MemM.new, List.length_replicate]; decide
    generalize MemM.new [h, 1#16, 2#16, 3#16] 4 [9#32] = m at *
    have cn : C.next = 12 := by rw [← hC]; simp [hn]
    have cw : C.WF := by
      rw [← hC]
      (repeat' (first | assumption | with_reducible apply killAll_wf | with_reducible apply bump_wf | with_reducible apply AHeap.WF.push | with_reducible apply AHeap.WF.set)) <;> (simp [hn] <;> omega)
    have c0 : C.get 0 = some ⟨T.ty_api_Ins, 5, true, [[.int .i64 i.op, .int .i64 i.d, .int .i64 i.n, .int .i64 i.m, .int .i64 i.imm]]⟩ := by rw [← hC]; simp [bumpGet, hn, x0]
    obtain ⟨b, hb⟩ : ∃ b, b = ((((t1.setN s.n).setZ s.z).setC s.c).setV s.v).setPC 0#32 := ⟨_, rfl⟩
    obtain ⟨a, ha⟩ : ∃ a, a = s.setPC 0#32 := ⟨_, rfl⟩
    have c2 : C.get 2 = some (stBlk a) := by rw [← hC, stBlk_def, ha]; simp [bumpGet, hn]
    have c3 : C.get 3 = some (stBlk b) := by rw [← hC, stBlk_def, hb]; simp [bumpGet, hn]
    have hag : Agree i a b := by
      subst ha hb
      exact ⟨rfl, rfl, rfl, rfl, rfl, fun r hr q => (hk r hr q).symm⟩
    have hf : m.fetch a.pc = (h, 0) := by
      rw [show a.pc = 0#32 from by rw [ha]; rfl]
      unfold MemM.fetch
      rw [hcd, if_pos (by simp)]
      simp [at0]
    have o := step_one i (hpm.1 rfl) a b m hag h hf htk
    clear hC hN x0 x2 x3 hn hw ha hb
    obtain ⟨J, e1, e2, e3, e4⟩ : ∃ J : Id4, J.b = 7 ∧ J.wb = 6 ∧ J.c = 11 ∧ J.wc = 10 := ⟨⟨7, 6, 11, 10⟩, rfl, rfl, rfl, rfl⟩
    have hpp : ∀ (B : AHeap) m n, (B.mem 7 6 m).mem 11 10 n = B.pp J m n := fun B m n => by rw [AHeap.pp, e1, e2, e3, e4]
    have okp : PpOk C J := ⟨cw, by omega, by omega, by omega, by omega, by omega, by omega, by omega, by omega, by omega, by omega⟩
    have hS := fun B' (h1 : AHeap.WF B') h2 => pStep1 (B := B') (n := m) (okp.more h1 h2) hm a
    have hR := fun B' m1 (h1 : AHeap.WF B') h2 => pStep2 (B := B') (m := m1) (okp.more h1 h2) hm b
    have hW1 := fun B' (h1 : AHeap.WF B') h2 => pWords1 (B := B') (n := (stepM b m).m) (okp.more h1 h2) ((keeps_step a m).ok hm)
    have hW2 := fun B' (h1 : AHeap.WF B') h2 => pWords2 (B := B') (m := (stepM a m).m) (okp.more h1 h2) ((keeps_step b m).ok hm)
    have hsame := same_eq (stepM a m).m.words (stepM b m).m.words (by rw [(keeps_step a m).words]; omega)
    rw [o.words] at hsame hW1
    have oe := o.e
    have op := o.pc
    have os := o.set
    have or := o.rest
    simp only [e1, e3] at hS hR hW1 hW2
    simp only [hpp]
    unfold DidAV at hS hR
    generalize stepM a m = p at *
    generalize stepM b m = q at *
    obtain ⟨ps, pm, pstop, pe⟩ := p
    obtain ⟨qs, qm, qstop, qe⟩ := q
    dsimp only at *
    subst oe
    simp only [stBlk_def] at c2 c3
    simp -implicitDefEqProofs +contextual (disch := try first | omega | assumption | (simp only [AHeap.next_set, AHeap.next_push]; omega) | ((repeat' (first | assumption | with_reducible apply AHeap.WF.push | with_reducible apply AHeap.WF.set)) <;> first | omega | (simp only [AHeap.next_set, AHeap.next_push]; omega)) | (intro c hc; simp (disch := omega); done)) [cn, c0, c2, c3, hS, hR, hW1, hW2, hsame, hWr, ppPush, ppSet, ppGet, pp_next, op]
    generalize hr : aloop _ _ _ = r
    obtain ⟨fr', rfl⟩ := regs_of a b ps qs 12 13 pe (writesM i).1 (writesM i).2 hr (by simp (disch := omega) [ppGet, cn, c2, stBlk_def]) (by simp (disch := omega) [ppGet, cn, c3, stBlk_def]) (by simp (disch := omega) [ppGet, cn, stBlk_def]) (by simp (disch := omega) [ppGet, cn, stBlk_def]) os or
    simp -implicitDefEqProofs +contextual (disch := omega) [lives06]
  · simp -implicitDefEqProofs +contextual (disch := omega) [law06_CoreOne.spec, law06_CoreOne, hP, he, lives06]
theorem shs_split : ∀ {ss ss' : List Sh} {as : List AV}, ShsOk (ss ++ ss') as → ∃ as1 as2, as = as1 ++ as2 ∧ ShsOk ss as1 ∧ ShsOk ss' as2
  | [], _, as, h => ⟨[], as, rfl, by simp [ShsOk], h⟩
  | s :: ss, ss', as, h => by
    obtain ⟨a, as', rfl, h1, h2⟩ := shs_cons h
    obtain ⟨as1, as2, rfl, q1, q2⟩ := shs_split h2
    exact ⟨a :: as1, as2, rfl, by simp only [ShsOk]; exact ⟨h1, q1⟩, q2⟩
theorem law06_CoreOne_law (args : List AV) (h : ArgsSh [(true, [.int .i64, .int .i64, .int .i64, .int .i64, .int .i64]), (true, [.int .u32, .int .u32, .int .u32, .int .u32, .int .u32, .int .u32, .int .u32, .int .u32, .int .u32, .bool, .bool, .bool, .bool, .int .u32, .int .u32, .int .u32, .int .u32, .int .u32, .int .u32, .int .u32, .int .u32, .int .u32, .bool, .bool, .bool, .bool])] args) : law06_CoreOne.spec args = some (.bool true) := by
  obtain ⟨a, _, rfl, h1, h⟩ := args_agg h
  obtain ⟨b, _, rfl, h2, h⟩ := args_agg h
  obtain rfl := args_nil h
  obtain ⟨i, hi⟩ := sh_ins h1
  obtain ⟨as1, as2, rfl, q1, q2⟩ := shs_split (ss := [.int .u32, .int .u32, .int .u32, .int .u32, .int .u32, .int .u32, .int .u32, .int .u32, .int .u32, .bool, .bool, .bool, .bool]) (ss' := [.int .u32, .int .u32, .int .u32, .int .u32, .int .u32, .int .u32, .int .u32, .int .u32, .int .u32, .bool, .bool, .bool, .bool]) h2
  obtain ⟨s, rfl⟩ := sh_state q1
  obtain ⟨t, rfl⟩ := sh_state q2
  rw [hi]
  exact coreOne_law i s t
end Go.Abs
