/-
  What an instruction leaks: the document's step. Printed by genk4.py.
-/
import Derived.Test.YteohnepdbjmghaaZ14
import Derived.Test.YteohnepdbjmghaaZ16
import Derived.Test.YteohnepdbjmghaaZ7
import Derived.Test.YteohnepdbjmghaaZ15
set_option linter.unusedSimpArgs false
set_option linter.unusedVariables false
set_option maxHeartbeats 20000000
set_option maxRecDepth 100000
section
namespace Go.Abs
open Th
structure LCtx (B : Hp) (b cb wb tb : Nat) (m : MemM) (s : StM) (r : Did) (h : BitVec 16) : Prop where
 bus : ∀ B' : Hp, (B'.rmem b cb wb tb m).get b = some (rBlk cb wb tb m)
 step : ∀ B' : Hp, B'.WF → B.next ≤ B'.next → (∀ c, c < B.next → B'.get c = B.get c) → z_aw.spec [.agg s.cells, .ptr b 5 0 0] (B'.rmem b cb wb tb m) = some (DidAV r, B'.rmem b cb wb tb r.m)
 fetch : ∀ B' : Hp, B'.WF → B.next ≤ B'.next → (∀ c, c < B.next → B'.get c = B.get c) → z_a1.spec [.ptr b 5 0 0, W32 s.pc] (B'.rmem b cb wb tb r.m) = some (.tup [W16 h, .int .i64 0], B'.rmem b cb wb tb r.m)
theorem z_qq (k : Nat) (hk : k = 0 ∨ k = 1 ∨ k = 2 ∨ k = 3 ∨ k = 4 ∨ k = 5 ∨ k = 6 ∨ k = 7 ∨ k = 8 ∨ k = 9 ∨ k = 10 ∨ k = 12 ∨ k = 13 ∨ k = 14 ∨ k = 15 ∨ k = 16 ∨ k = 17 ∨ k = 18 ∨ k = 19 ∨ k = 20) (B : Hp) (b cb wb tb : Nat) (m : MemM) (hx : RCtx B b cb wb tb m) (s : StM) (D N M : Nat) (hD : k ≠ 18 → D < 8) (hN : N < 8) (hM : M < 8) (imm : Int) (hc : (InsM.mk (k : Nat) D N M imm).can = true) (h : BitVec 16) (ht : takeN h.toNat = (⟨(k : Nat), D, N, M, imm⟩, 0)) (r : Did) (he : r.e = 0) (hcd : r.m.code = m.code) (hwl : r.m.words.length = m.words.length) (hl : LCtx B b cb wb tb m s r h) :
  z_bz.spec [.agg s.cells, .ptr b 5 0 0] (B.rmem b cb wb tb m) = some (.tup [.agg r.s.cells, .agg (leakI ⟨(k : Nat), D, N, M, imm⟩ h s r.s m.bus).cells, .bool r.stop, .int .i64 0], B.rmem b cb wb tb r.m) := by
 have hT := z_fa h
 have hw := hx.wf; have hb := hx.fix.hb; have hwb := hx.fix.hwb
 rw [ht] at hT
 clear ht
 have hW := z_k3 ⟨(k : Nat), D, N, M, imm⟩
 simp only [InsAV] at hT hW
 have hS := hl.step
 have hF := hl.fetch
 have hB := hl.bus
 unfold DidAV at hS
 simp only [rBlk] at hB
 obtain ⟨rs, rm, rstop, re⟩ := r
 dsimp only at *
 subst he
 unfold LeakM.cells leakI opsM z_k6 z_l5 z_lz
 obtain rfl | rfl | rfl | rfl | rfl | rfl | rfl | rfl | rfl | rfl | rfl | rfl | rfl | rfl | rfl | rfl | rfl | rfl | rfl | rfl := hk
 all_goals
  try replace hD := hD (by decide)
  push_cast at hT hW hc ⊢
  simp only [z_ef, hc, if_true] at hW ⊢
  try simp only [Int.toNat_natCast, Int.reduceToNat]
  simp -implicitDefEqProofs +contextual (disch := try first | omega | assumption | (simp only [Hp.next_set, Hp.next_push]; omega) | ((repeat' (first | assumption | with_reducible apply Hp.WF.push | with_reducible apply Hp.WF.set)) <;> first | omega | (simp only [Hp.next_set, Hp.next_push]; omega)) | (intro c hc; simp (disch := omega); done)) [z_bz.spec, z_bz, hT, hS, hF, hW, hB, z_ct, z_dg, z_c4, z_dx, immW, down4]
  refine z_dy hw hx.fix rfl ?_ ?_ ?_ ?_ ?_
  ·simp; omega
  ·intro c hc
   simp (disch := omega)
  ·exact hwl
  ·rw [hcd]
  ·simp [mkRes]
theorem z_sl (k : Nat) (hk : k = 11) (B : Hp) (b cb wb tb : Nat) (m : MemM) (hx : RCtx B b cb wb tb m) (s : StM) (D N M : Nat) (hD : k ≠ 18 → D < 8) (hN : N < 8) (hM : M < 8) (imm : Int) (hc : (InsM.mk (k : Nat) D N M imm).can = true) (h : BitVec 16) (ht : takeN h.toNat = (⟨(k : Nat), D, N, M, imm⟩, 0)) (r : Did) (he : r.e = 0) (hcd : r.m.code = m.code) (hwl : r.m.words.length = m.words.length) (hl : LCtx B b cb wb tb m s r h) :
  z_bz.spec [.agg s.cells, .ptr b 5 0 0] (B.rmem b cb wb tb m) = some (.tup [.agg r.s.cells, .agg (leakI ⟨(k : Nat), D, N, M, imm⟩ h s r.s m.bus).cells, .bool r.stop, .int .i64 0], B.rmem b cb wb tb r.m) := by
 have hT := z_fa h
 have hw := hx.wf; have hb := hx.fix.hb; have hwb := hx.fix.hwb
 rw [ht] at hT
 clear ht
 have hW := z_k3 ⟨(k : Nat), D, N, M, imm⟩
 simp only [InsAV] at hT hW
 have hS := hl.step
 have hF := hl.fetch
 have hB := hl.bus
 unfold DidAV at hS
 simp only [rBlk] at hB
 obtain ⟨rs, rm, rstop, re⟩ := r
 dsimp only at *
 subst he
 unfold LeakM.cells leakI opsM z_k6 z_l5 z_lz
 subst hk
 replace hD := hD (by decide)
 push_cast at hT hW hc ⊢
 simp only [z_ef, hc, if_true] at hW ⊢
 simp only [Int.toNat_natCast, Int.reduceToNat]
 have hi : (imm = 8 ∨ imm = 10 ∨ imm = 11) ∨ (¬ imm = 8 ∧ ¬ imm = 10 ∧ ¬ imm = 11) := by omega
 rcases hi with hi | ⟨ha8, ha10, ha11⟩
 ·rcases hi with rfl | rfl | rfl
  all_goals
   simp -implicitDefEqProofs +contextual (disch := try first | omega | assumption | (simp only [Hp.next_set, Hp.next_push]; omega) | ((repeat' (first | assumption | with_reducible apply Hp.WF.push | with_reducible apply Hp.WF.set)) <;> first | omega | (simp only [Hp.next_set, Hp.next_push]; omega)) | (intro c hc; simp (disch := omega); done)) [z_bz.spec, z_bz, hT, hS, hF, hW, hB, z_ct, z_dg, z_c4, z_dx, immW, down4]
   refine z_dy hw hx.fix rfl ?_ ?_ ?_ ?_ ?_
   ·simp; omega
   ·intro c hc
    simp (disch := omega)
   ·exact hwl
   ·rw [hcd]
   ·simp [mkRes]
 ·simp only [ha8, ha10, ha11, or_self, and_false, if_false] at hW
  simp -implicitDefEqProofs +contextual (disch := try first | omega | assumption | (simp only [Hp.next_set, Hp.next_push]; omega) | ((repeat' (first | assumption | with_reducible apply Hp.WF.push | with_reducible apply Hp.WF.set)) <;> first | omega | (simp only [Hp.next_set, Hp.next_push]; omega)) | (intro c hc; simp (disch := omega); done)) [z_bz.spec, z_bz, hT, hS, hF, hW, hB, z_ct, z_dg, z_c4, z_dx, immW, down4, ha8, ha10, ha11]
  refine z_dy hw hx.fix rfl ?_ ?_ ?_ ?_ ?_
  ·simp; omega
  ·intro c hc
   simp (disch := omega)
  ·exact hwl
  ·rw [hcd]
  ·simp [mkRes]
end Go.Abs
end
section
namespace Go.Abs
open Th
theorem z_sr (B : Hp) (b cb wb tb : Nat) (m : MemM) (hx : RCtx B b cb wb tb m) (s : StM) :
  z_bz.spec [.agg s.cells, .ptr b 5 0 0] (B.rmem b cb wb tb m) = some (z_oc s m, B.rmem b cb wb tb (stepM s m).m) := by
 have hK := z_f4 s m
 have hd := z_r2 s m
 have hbus : ∀ B' : Hp, (B'.rmem b cb wb tb m).get b = some (rBlk cb wb tb m) := fun B' => by rw [z_by, if_pos rfl]
 have hst : ∀ B' : Hp, B'.WF → B.next ≤ B'.next → (∀ c, c < B.next → B'.get c = B.get c) → z_aw.spec [.agg s.cells, .ptr b 5 0 0] (B'.rmem b cb wb tb m) = some (DidAV (stepM s m), B'.rmem b cb wb tb (stepM s m).m) :=
  fun B' h1 h2 h3 => z_vi B' b cb wb tb m ⟨h1, hx.fix.more hx.wf h2 h3 rfl rfl, hx.ok⟩ s
 have hx' : RCtx B b cb wb tb (stepM s m).m := ⟨hx.wf, hx.fix.of hK.code hK.tape, hK.ok hx.ok⟩
 have hft : ∀ B' : Hp, B'.WF → B.next ≤ B'.next → (∀ c, c < B.next → B'.get c = B.get c) → z_a1.spec [.ptr b 5 0 0, W32 s.pc] (B'.rmem b cb wb tb (stepM s m).m) = some (.tup [W16 (m.fetch s.pc).1, .int .i64 (m.fetch s.pc).2], B'.rmem b cb wb tb (stepM s m).m) :=
  fun B' h1 h2 h3 => by rw [← z_o6 hK]; exact rF hx' h1 h2 h3 s.pc
 by_cases he : (stepM s m).e = 0
 ·obtain ⟨i, hc, ht, hf⟩ := hd he
  obtain ⟨k, D, N, M, hi, h1, h2, h3, h4, h5, h6⟩ := z_no i hc
  generalize i.imm = imm at hi h6
  subst hi
  have hl : LCtx B b cb wb tb m s (stepM s m) (m.fetch s.pc).1 := ⟨hbus, hst, fun B' h1 h2 h3 => by have := hft B' h1 h2 h3; rw [hf] at this; exact this⟩
  have hg : z_oc s m = .tup [.agg (stepM s m).s.cells, .agg (leakI ⟨(k : Nat), D, N, M, imm⟩ (m.fetch s.pc).1 s (stepM s m).s m.bus).cells, .bool (stepM s m).stop, .int .i64 0] := by
   unfold z_oc leakM; rw [if_pos he, ht, he]
  rw [hg]
  by_cases e : k = 11
  ·exact z_sl k e B b cb wb tb m hx s D N M h2 h4 h5 imm hc _ ht (stepM s m) he hK.code hK.words hl
  ·exact z_qq k (by omega) B b cb wb tb m hx s D N M h2 h4 h5 imm hc _ ht (stepM s m) he hK.code hK.words hl
 ·unfold z_oc leakM
  rw [if_neg he]
  have hw := hx.wf; have hb := hx.fix.hb; have hwb := hx.fix.hwb
  have hcd := hK.code; have hwl := hK.words
  unfold DidAV at hst
  generalize stepM s m = r at *
  obtain ⟨rs, rm, rstop, re⟩ := r
  dsimp only at *
  simp only [rBlk] at hbus
  unfold LeakM.zero LeakM.cells
  simp -implicitDefEqProofs +contextual (disch := try first | omega | assumption | (simp only [Hp.next_set, Hp.next_push]; omega) | ((repeat' (first | assumption | with_reducible apply Hp.WF.push | with_reducible apply Hp.WF.set)) <;> first | omega | (simp only [Hp.next_set, Hp.next_push]; omega)) | (intro c hc; simp (disch := omega); done)) [z_bz.spec, z_bz, hst, hbus, he, z_ct, z_dg, z_c4, z_dx]
  refine z_dy hw hx.fix rfl ?_ ?_ ?_ ?_ ?_
  ·simp; omega
  ·intro c hc
   simp (disch := omega)
  ·exact hwl
  ·rw [hcd]
  ·simp [mkRes]
end Go.Abs
end
section
namespace Go.Abs
open Th
theorem RFix.keep {H H' : Hp} {b cb wb tb : Nat} {m : MemM} (h : RFix H b cb wb tb m) (hn : H.next ≤ H'.next) (hc : H'.get cb = H.get cb) (ht : H'.get tb = H.get tb) : RFix H' b cb wb tb m :=
 ⟨fun q => by rw [hc]; exact h.code q, by rw [ht]; exact h.tape, Nat.lt_of_lt_of_le h.hb hn, Nat.lt_of_lt_of_le h.hwb hn, h.bw, h.bc, h.bt, h.wc, h.wt⟩
noncomputable abbrev exeL := z_be.l1 z_b0.spec z_bz.spec
abbrev exeF (lim : Nat) (b so oo : Nat) (on : Bool) (x : List (Nat × AV)) : AFr := AFr.al ((3, .int .i64 lim) :: (8, .ptr 0 5 0 0) :: (9, .ptr b 5 0 0) :: (10, .ptr so 13 0 0) :: (12, .ptr oo 5 0 0) :: (13, .bool on) :: x)
structure Far (b cb wb tb so oo : Nat) : Prop where
 s0 : so ≠ 0
 s1 : so ≠ b
 s2 : so ≠ cb
 s3 : so ≠ wb
 s4 : so ≠ tb
 s5 : so ≠ oo
 o0 : oo ≠ 0
 o1 : oo ≠ b
 o2 : oo ≠ cb
 o3 : oo ≠ wb
 o4 : oo ≠ tb
 z1 : b ≠ 0
 z2 : cb ≠ 0
 z3 : wb ≠ 0
 z4 : tb ≠ 0
structure RI (B : Hp) (b cb wb tb so oo : Nat) (m : MemM) (k : Nat) (e : Int) (ls : List LeakM) : Prop where
 wf : B.WF
 fix : RFix B b cb wb tb m
 lc : cb < B.next
 ns : so < B.next
 no : oo < B.next
 fst : B.get 0 = some (outB 0 0 0 .nils .nils true)
 out : ∃ c fl, B.get oo = some (outB k 0 e .nils (lAV c ls) fl) ∧ (ls ≠ [] → c ≠ 0 ∧ c ≠ b ∧ c ≠ cb ∧ c ≠ wb ∧ c ≠ tb ∧ c ≠ so ∧ c ≠ oo ∧ B.get c = some ⟨T.ty_api_Leak, 10, true, lrows ls⟩)
theorem z_v5 (B : Hp) (b cb wb tb so oo : Nat) (F : Far b cb wb tb so oo) (s : StM) (m : MemM) (hm : m.Ok) (lim : Nat) (x : List (Nat × AV)) (hl : lim ≤ 1048576) (ls : List LeakM) (hk : ls.length < lim) (G : RI B b cb wb tb so oo m ls.length 80 ls) (hs : B.get so = some (stBlk s)) :
  ((stepM s m).e ≠ 0 ∧ ∃ B', exeL (exeF lim b so oo true x) (B.rmem b cb wb tb m) = some (.normal, exeF lim b so oo false [], B'.rmem b cb wb tb (stepM s m).m) ∧ RI B' b cb wb tb so oo (stepM s m).m ls.length (stepM s m).e ls) ∨
  ((stepM s m).e = 0 ∧ (stepM s m).stop = true ∧ ∃ B', exeL (exeF lim b so oo true x) (B.rmem b cb wb tb m) = some (.normal, exeF lim b so oo false [], B'.rmem b cb wb tb (stepM s m).m) ∧ RI B' b cb wb tb so oo (stepM s m).m (ls.length + 1) 0 (ls ++ [leakM s m])) ∨
  ((stepM s m).e = 0 ∧ (stepM s m).stop = false ∧ ∃ B', exeL (exeF lim b so oo true x) (B.rmem b cb wb tb m) = some (.normal, exeF lim b so oo true [(76, .bool false)], B'.rmem b cb wb tb (stepM s m).m) ∧ RI B' b cb wb tb so oo (stepM s m).m (ls.length + 1) 80 (ls ++ [leakM s m]) ∧ B'.get so = some (stBlk (stepM s m).s)) := by
 obtain ⟨wf, fix, lc, ns, no, fst, c, fl, out, hc⟩ := G
 obtain ⟨s0, s1, s2, s3, s4, s5, o0, o1, o2, o3, o4, z1, z2, z3, z4⟩ := F
 have hS := z_sr B b cb wb tb m ⟨wf, fix, hm⟩ s
 have hb := fix.hb; have hwb := fix.hwb; have htb := wf _ _ fix.tape
 have hc5 : ls ≠ [] → c < B.next := fun h => wf _ _ (hc h).2.2.2.2.2.2.2
 have hK := z_f4 s m
 have fix' := fix.of hK.code hK.tape
 clear fix hK
 unfold z_oc at hS
 generalize hlk : leakM s m = lk at *
 have hlc : lk.cells = [W32 lk.pc, W16 lk.code, W32 lk.a, W32 lk.b, W32 lk.r, W32 lk.old, W32 lk.bus, W32 lk.addr, .bool lk.memory, .bool lk.random] := rfl
 rw [hlc] at hS
 generalize stepM s m = r at *
 obtain ⟨rs, rm, rstop, re⟩ := r
 simp only [stBlk, outB] at hs out fst ⊢
 dsimp only at *
 have hk' : (ls.length : Int) < (lim : Int) := by omega
 have n0 : 0 < B.next := by omega
 by_cases hn : ls = []
 ·subst hn
  simp only [lAV, if_true, List.length_nil] at out ⊢
  by_cases he : re = 0
  ·subst he
   cases rstop with
   | true =>
    refine .inr (.inl ⟨rfl, rfl, ?_⟩)
    refine ⟨?_, ?_, ?_⟩
    rotate_left
    ·simp -implicitDefEqProofs +contextual (disch := try first | omega | assumption | (simp only [Hp.next_set, Hp.next_push]; omega) | ((repeat' (first | assumption | with_reducible apply Hp.WF.push | with_reducible apply Hp.WF.set)) <;> first | omega | (simp only [Hp.next_set, Hp.next_push]; omega)) | (intro c hc; simp (disch := omega); done)) [exeL, exeF, z_be.l1, hs, out, hS, z_ct, z_dg, z_c4, hk']
     rfl
    ·refine ⟨?_, fix'.keep ?_ ?_ ?_, ?_, ?_, ?_, ?_, ?_⟩
     ·(repeat' (first | assumption | with_reducible apply Hp.WF.push | with_reducible apply Hp.WF.set)) <;> (simp <;> omega)
     ·simp; try omega
     ·simp (disch := omega)
     ·simp (disch := omega)
     ·simp; omega
     ·simp; omega
     ·simp; omega
     ·simp (disch := omega) [outB, fst]
     ·refine ⟨B.next + 3, _, by simp (disch := omega) [outB, lAV]; rfl, fun _ => ⟨by omega, by omega, by omega, by omega, by omega, by omega, by omega, by simp (disch := omega) [lrows, hlc]⟩⟩
   | false =>
    refine .inr (.inr ⟨rfl, rfl, ?_⟩)
    refine ⟨?_, ?_, ?_, ?_⟩
    rotate_left
    ·simp -implicitDefEqProofs +contextual (disch := try first | omega | assumption | (simp only [Hp.next_set, Hp.next_push]; omega) | ((repeat' (first | assumption | with_reducible apply Hp.WF.push | with_reducible apply Hp.WF.set)) <;> first | omega | (simp only [Hp.next_set, Hp.next_push]; omega)) | (intro c hc; simp (disch := omega); done)) [exeL, exeF, z_be.l1, hs, out, hS, z_ct, z_dg, z_c4, hk']
     rfl
    ·refine ⟨?_, fix'.keep ?_ ?_ ?_, ?_, ?_, ?_, ?_, ?_⟩
     ·(repeat' (first | assumption | with_reducible apply Hp.WF.push | with_reducible apply Hp.WF.set)) <;> (simp <;> omega)
     ·simp; try omega
     ·simp (disch := omega)
     ·simp (disch := omega)
     ·simp; omega
     ·simp; omega
     ·simp; omega
     ·simp (disch := omega) [outB, fst]
     ·refine ⟨B.next + 3, _, by simp (disch := omega) [outB, lAV]; rfl, fun _ => ⟨by omega, by omega, by omega, by omega, by omega, by omega, by omega, by simp (disch := omega) [lrows, hlc]⟩⟩
    ·simp (disch := omega) [stBlk]
  ·refine .inl ⟨he, ?_⟩
   refine ⟨?_, ?_, ?_⟩
   rotate_left
   ·simp -implicitDefEqProofs +contextual (disch := try first | omega | assumption | (simp only [Hp.next_set, Hp.next_push]; omega) | ((repeat' (first | assumption | with_reducible apply Hp.WF.push | with_reducible apply Hp.WF.set)) <;> first | omega | (simp only [Hp.next_set, Hp.next_push]; omega)) | (intro c hc; simp (disch := omega); done)) [exeL, exeF, z_be.l1, hs, out, hS, z_ct, z_dg, z_c4, hk', he]
    rfl
   ·refine ⟨?_, fix'.keep ?_ ?_ ?_, ?_, ?_, ?_, ?_, ?_⟩
    ·(repeat' (first | assumption | with_reducible apply Hp.WF.push | with_reducible apply Hp.WF.set)) <;> (simp <;> omega)
    ·simp; try omega
    ·simp (disch := omega)
    ·simp (disch := omega)
    ·simp; omega
    ·simp; omega
    ·simp; omega
    ·simp (disch := omega) [outB, fst]
    ·exact ⟨c, _, by simp (disch := omega) [outB, lAV]; rfl, fun h => (h rfl).elim⟩
 ·obtain ⟨c0, c1, c2, c3, c4, c6, c7, hcg⟩ := hc hn
  have hc7 := hc5 hn
  simp only [lAV, hn, if_false] at out ⊢
  by_cases he : re = 0
  ·subst he
   cases rstop with
   | true =>
    refine .inr (.inl ⟨rfl, rfl, ?_⟩)
    refine ⟨?_, ?_, ?_⟩
    rotate_left
    ·simp -implicitDefEqProofs +contextual (disch := try first | omega | assumption | (simp only [Hp.next_set, Hp.next_push]; omega) | ((repeat' (first | assumption | with_reducible apply Hp.WF.push | with_reducible apply Hp.WF.set)) <;> first | omega | (simp only [Hp.next_set, Hp.next_push]; omega)) | (intro c hc; simp (disch := omega); done)) [exeL, exeF, z_be.l1, hs, out, hS, z_ct, z_dg, z_c4, hk', hcg]
     rfl
    ·refine ⟨?_, fix'.keep ?_ ?_ ?_, ?_, ?_, ?_, ?_, ?_⟩
     ·(repeat' (first | assumption | with_reducible apply Hp.WF.push | with_reducible apply Hp.WF.set)) <;> (simp <;> omega)
     ·simp; try omega
     ·simp (disch := omega)
     ·simp (disch := omega)
     ·simp; omega
     ·simp; omega
     ·simp; omega
     ·simp (disch := omega) [outB, fst]
     ·refine ⟨B.next + 3, _, by simp (disch := omega) [outB, lAV]; rfl, fun _ => ⟨by omega, by omega, by omega, by omega, by omega, by omega, by omega, by simp (disch := omega) [lrows, hlc]⟩⟩
   | false =>
    refine .inr (.inr ⟨rfl, rfl, ?_⟩)
    refine ⟨?_, ?_, ?_, ?_⟩
    rotate_left
    ·simp -implicitDefEqProofs +contextual (disch := try first | omega | assumption | (simp only [Hp.next_set, Hp.next_push]; omega) | ((repeat' (first | assumption | with_reducible apply Hp.WF.push | with_reducible apply Hp.WF.set)) <;> first | omega | (simp only [Hp.next_set, Hp.next_push]; omega)) | (intro c hc; simp (disch := omega); done)) [exeL, exeF, z_be.l1, hs, out, hS, z_ct, z_dg, z_c4, hk', hcg]
     rfl
    ·refine ⟨?_, fix'.keep ?_ ?_ ?_, ?_, ?_, ?_, ?_, ?_⟩
     ·(repeat' (first | assumption | with_reducible apply Hp.WF.push | with_reducible apply Hp.WF.set)) <;> (simp <;> omega)
     ·simp; try omega
     ·simp (disch := omega)
     ·simp (disch := omega)
     ·simp; omega
     ·simp; omega
     ·simp; omega
     ·simp (disch := omega) [outB, fst]
     ·refine ⟨B.next + 3, _, by simp (disch := omega) [outB, lAV]; rfl, fun _ => ⟨by omega, by omega, by omega, by omega, by omega, by omega, by omega, by simp (disch := omega) [lrows, hlc]⟩⟩
    ·simp (disch := omega) [stBlk]
  ·refine .inl ⟨he, ?_⟩
   refine ⟨?_, ?_, ?_⟩
   rotate_left
   ·simp -implicitDefEqProofs +contextual (disch := try first | omega | assumption | (simp only [Hp.next_set, Hp.next_push]; omega) | ((repeat' (first | assumption | with_reducible apply Hp.WF.push | with_reducible apply Hp.WF.set)) <;> first | omega | (simp only [Hp.next_set, Hp.next_push]; omega)) | (intro c hc; simp (disch := omega); done)) [exeL, exeF, z_be.l1, hs, out, hS, z_ct, z_dg, z_c4, hk', he, hcg]
    rfl
   ·refine ⟨?_, fix'.keep ?_ ?_ ?_, ?_, ?_, ?_, ?_, ?_⟩
    ·(repeat' (first | assumption | with_reducible apply Hp.WF.push | with_reducible apply Hp.WF.set)) <;> (simp <;> omega)
    ·simp; try omega
    ·simp (disch := omega)
    ·simp (disch := omega)
    ·simp; omega
    ·simp; omega
    ·simp; omega
    ·simp (disch := omega) [outB, fst]
    ·exact ⟨c, _, by simp (disch := omega) [outB, lAV, hn]; rfl, fun _ => ⟨c0, c1, c2, c3, c4, c6, c7, by simp (disch := omega) [hcg]⟩⟩
end Go.Abs
end
section
namespace Go.Abs
open Th
theorem z_l7 (B : Hp) (b cb wb tb so oo : Nat) (F : Far b cb wb tb so oo) (m : MemM) (lim : Int) (on : Bool) (x : List (Nat × AV)) (k : Nat) (e : Int) (ls : List LeakM) (hon : on = false ∨ lim ≤ k) (G : RI B b cb wb tb so oo m k e ls) :
  ∃ fr', aloop exeL (AFr.al ((3, .int .i64 lim) :: (8, .ptr 0 5 0 0) :: (9, .ptr b 5 0 0) :: (10, .ptr so 13 0 0) :: (12, .ptr oo 5 0 0) :: (13, .bool on) :: x)) (B.rmem b cb wb tb m) = some (.exit 2, fr', B.rmem b cb wb tb m) ∧ fr' 8 = .ptr 0 5 0 0 ∧ fr' 9 = .ptr b 5 0 0 ∧ fr' 12 = .ptr oo 5 0 0 := by
 obtain ⟨wf, fix, lc, ns, no, fst, c, fl, out, hc⟩ := G
 obtain ⟨s0, s1, s2, s3, s4, s5, o0, o1, o2, o3, o4, z1, z2, z3, z4⟩ := F
 simp only [outB] at out
 cases on with
 | false =>
  refine ⟨?_, z_ce (by simp) ?_, ?_⟩
  rotate_left
  ·simp -implicitDefEqProofs +contextual (disch := omega) [exeL, z_be.l1, out, z_c4]
   rfl
  ·exact ⟨rfl, rfl, rfl⟩
 | true =>
  have hk : ¬ (k : Int) < lim := by rcases hon with h | h; cases h; omega
  refine ⟨?_, z_ce (by simp) ?_, ?_⟩
  rotate_left
  ·simp -implicitDefEqProofs +contextual (disch := omega) [exeL, z_be.l1, out, z_c4, hk]
   rfl
  ·exact ⟨rfl, rfl, rfl⟩
theorem z_tn (b cb wb tb so oo : Nat) (F : Far b cb wb tb so oo) (lim : Nat) (hl : lim ≤ 1048576) : ∀ (d : Nat) (B : Hp) (s : StM) (m : MemM) (ls : List LeakM) (x : List (Nat × AV)), ls.length + d = lim → m.Ok → RI B b cb wb tb so oo m ls.length 80 ls → B.get so = some (stBlk s) →
  ∃ fr' B', aloop exeL (exeF lim b so oo true x) (B.rmem b cb wb tb m) = some (.exit 2, fr', B'.rmem b cb wb tb (goL d s m).2.1) ∧ (fr' 8 = .ptr 0 5 0 0 ∧ fr' 9 = .ptr b 5 0 0 ∧ fr' 12 = .ptr oo 5 0 0) ∧ RI B' b cb wb tb so oo (goL d s m).2.1 (ls ++ (goL d s m).1).length (goL d s m).2.2 (ls ++ (goL d s m).1)
 | 0, B, s, m, ls, x, h, hm, G, hs => by
  obtain rfl : ls.length = lim := by omega
  obtain ⟨fr', h1, h2⟩ := z_l7 B b cb wb tb so oo F m ls.length true x ls.length 80 ls (.inr (Int.le_refl _)) G
  exact ⟨fr', B, h1, h2, by simpa [goL] using G⟩
 | d + 1, B, s, m, ls, x, h, hm, G, hs => by
  unfold goL
  rcases z_v5 B b cb wb tb so oo F s m hm lim x hl ls (by omega) G hs with ⟨he, B', h1, h2⟩ | ⟨he, hst, B', h1, h2⟩ | ⟨he, hst, B', h1, h2, h3⟩
  ·rw [if_pos he]
   obtain ⟨fr', q1, q2⟩ := z_l7 B' b cb wb tb so oo F _ lim false [] _ _ _ (.inl rfl) h2
   exact ⟨fr', B', by rw [z_dk h1]; exact q1, q2, by simpa using h2⟩
  ·rw [if_neg (by rw [he]; simp), if_pos hst]
   obtain ⟨fr', q1, q2⟩ := z_l7 B' b cb wb tb so oo F _ lim false [] _ _ _ (.inl rfl) h2
   exact ⟨fr', B', by rw [z_dk h1]; exact q1, q2, by simpa using h2⟩
  ·rw [if_neg (by rw [he]; simp), if_neg (by rw [hst]; simp)]
   obtain ⟨fr', B2, q1, q2, q3⟩ := z_tn b cb wb tb so oo F lim hl d B' (stepM s m).s (stepM s m).m (ls ++ [leakM s m]) [(76, .bool false)] (by simp; omega) ((z_f4 s m).ok hm) (by simpa using h2) h3
   exact ⟨fr', B2, by rw [z_dk h1, q1], q2, by simpa using q3⟩
noncomputable abbrev exeL0 := z_be.l0 z_b0.spec z_bz.spec
theorem z_y9 (B : Hp) (b cb wb tb : Nat) (m : MemM) (fix : RFix B b cb wb tb m) (words : List (BitVec 32)) (k : Nat) (hk : k < words.length) (hl : m.words.length = words.length) (hl2 : words.length ≤ 16000) (a c d : AV) :
  exeL0 (AFr.al [(1, .rsl 1 (w32s words)), (3, a), (8, c), (9, .ptr b 5 0 0), (10, d), (11, .int .i64 k)]) (B.rmem b cb wb tb m) =
   some (.normal, AFr.al [(1, .rsl 1 (w32s words)), (3, a), (8, c), (9, .ptr b 5 0 0), (10, d), (11, .int .i64 (k + 1 : Nat))], B.rmem b cb wb tb { m with words := m.words.set k (at0 words k) }) := by
 have hc := z_im wb words.length (by omega)
 have hG : (B.rmem b cb wb tb m).get b = some (rBlk cb wb tb m) := by rw [z_by, if_pos rfl]
 have hW : (B.rmem b cb wb tb m).get wb = some (z_d1 m.words) := by rw [z_by, if_neg fix.bw, if_pos ⟨rfl, by omega⟩]
 have hst := z_m3 B b cb wb tb m { m with words := m.words.set k (at0 words k) } fix.bw.symm (by simp) (by omega) (by simp [rBlk])
 simp only [rBlk, z_d1, hl, hc] at hG hW hst
 have h1 : (k : Int) < (words.length : Int) := by omega
 simp -implicitDefEqProofs +contextual (disch := omega) [exeL0, z_be.l0, hG, hW, h1, hl, hk, hst]
theorem z_tm (B : Hp) (b cb wb tb : Nat) (code : List (BitVec 16)) (words tape : List (BitVec 32)) (fix : RFix B b cb wb tb (MemM.new code words.length tape)) (hl2 : words.length ≤ 16000) (a c d : AV) :
  ∃ fr', aloop exeL0 (AFr.al [(1, .rsl 1 (w32s words)), (3, a), (8, c), (9, .ptr b 5 0 0), (10, d), (11, .int .i64 0)]) (B.rmem b cb wb tb (MemM.new code words.length tape)) = some (.exit 0, fr', B.rmem b cb wb tb (z_d2 code words tape)) ∧
   fr' 3 = a ∧ fr' 8 = c ∧ fr' 9 = .ptr b 5 0 0 ∧ fr' 10 = d := by
 have hl : (MemM.new code words.length tape).words.length = words.length := by simp only [MemM.new, List.length_replicate]; omega
 have h := z_qd (f := exeL0) (fun k => AFr.al [(1, .rsl 1 (w32s words)), (3, a), (8, c), (9, .ptr b 5 0 0), (10, d), (11, .int .i64 (k : Nat))]) (fun k => B.rmem b cb wb tb ((MemM.new code words.length tape).put4 words k)) words.length (fun k hk => by
  obtain ⟨q1, q2, q3, q4⟩ := z_sz (MemM.new code words.length tape) words k
  exact z_y9 B b cb wb tb _ (fix.of q1 q2) words k hk (by rw [q3, hl]) hl2 a c d) 0 (by omega)
 rw [z_qt code words tape hl2] at h
 have hG : (B.rmem b cb wb tb (z_d2 code words tape)).get b = some (rBlk cb wb tb (z_d2 code words tape)) := by rw [z_by, if_pos rfl]
 by_cases h0 : words.length = 0
 ·have hc : cAV wb 0 = .nils := rfl
  refine ⟨?_, h.trans (z_ce (by simp) ?_), ?_⟩
  rotate_left
  ·simp only [rBlk, z_d2, h0, hc] at hG ⊢
   simp -implicitDefEqProofs +contextual (disch := omega) [exeL0, z_be.l0, hG]
   rfl
  ·exact ⟨rfl, rfl, rfl, rfl⟩
 ·have hc := z_im wb words.length (by omega)
  refine ⟨?_, h.trans (z_ce (by simp) ?_), ?_⟩
  rotate_left
  ·simp only [rBlk, z_d2, hc] at hG ⊢
   simp -implicitDefEqProofs +contextual (disch := omega) [exeL0, z_be.l0, hG]
   rfl
  ·exact ⟨rfl, rfl, rfl, rfl⟩
theorem z_tt {X : Hp} {b cb wb tb : Nat} {m : MemM} (wf : X.WF) (fix : RFix X b cb wb tb m) (h : 1 ≤ cb) (h2 : 1 ≤ tb) : ∃ cb', 1 ≤ cb' ∧ cb' < X.next ∧ RFix X b cb' wb tb m ∧ ∀ (Y : Hp) (m' : MemM), m'.code = m.code → Y.rmem b cb wb tb m' = Y.rmem b cb' wb tb m' := by
 by_cases h0 : 0 < m.code.length
 ·exact ⟨cb, h, fix.cb wf h0, fix, fun _ _ _ => rfl⟩
 ·refine ⟨tb, h2, fix.tb wf, ⟨fun q => (h0 q).elim, fix.tape, fix.hb, fix.hwb, fix.bw, fix.bt, fix.bt, fix.wt, fix.wt⟩, fun Y m' hm' => ?_⟩
  have : m'.code.length = 0 := by rw [hm']; omega
  simp only [Hp.rmem, rBlk, this, cAV, if_true]
theorem exe_eq (code : List (BitVec 16)) (words tape : List (BitVec 32)) (lim : Int) (hc : code.length ≤ 1000000000) (hw : words.length ≤ 16000) (ht : tape.length ≤ 1000000000) :
  z_be.spec [.rsl 1 (w16s code), .rsl 1 (w32s words), .rsl 1 (w32s tape), .int .i64 lim] = some (outAV (goL (min (max lim 0) 1048576).toNat s00 (z_d2 code words tape)) true) := by
 obtain ⟨X, b, cb0, wb, tb, hn, wf, fix0, i1, i20, i3, i4, i5, hX⟩ := z_x9 (Hp.empty.push ⟨T.ty_api_Outcome, 5, true, [[.int .i64 0, .int .i64 0, .int .i64 0, .nils, .nils]]⟩) code tape words.length (Hp.WF.push Hp.WF.empty) hc ht
 simp only [Hp.next_push, z_cd, Nat.zero_add] at i1 i20 i3 i4 i5 hX
 have g0 := hX 0 (by omega)
 simp at g0
 obtain ⟨cb, i2, icb, fix, hcb⟩ := z_tt wf fix0 i20 i4
 rw [hcb X _ rfl] at hn
 clear hcb fix0 i20 hX
 have hb := fix.hb; have hwb := fix.hwb; have htb := wf _ _ fix.tape
 have wfs : ((X.push ⟨T.ty_api_State, 13, true, [s00.cells]⟩).set X.next (some ⟨T.ty_api_State, 13, true, [s00.cells]⟩)).WF := Hp.WF.set (Hp.WF.push wf) (by simp)
 have fix1 : RFix ((X.push ⟨T.ty_api_State, 13, true, [s00.cells]⟩).set X.next (some ⟨T.ty_api_State, 13, true, [s00.cells]⟩)) b cb wb tb (MemM.new code words.length tape) := fix.keep (by simp) (by simp (disch := omega)) (by simp (disch := omega))
 obtain ⟨fr1, w1, w2, w3, w4, w5⟩ := z_tm _ b cb wb tb code words tape fix1 hw (.int .i64 lim) (.ptr 0 5 0 0) (.ptr X.next 13 0 0)
 obtain ⟨n, hn1⟩ : ∃ n : Nat, n = (min (max lim 0) 1048576).toNat := ⟨_, rfl⟩
 rw [← hn1]
 have hok := z_u4 code words tape hw ht
 have hK := z_ng n s00 (z_d2 code words tape)
 have fix2 : RFix (((((X.push ⟨T.ty_api_State, 13, true, [s00.cells]⟩).set X.next (some ⟨T.ty_api_State, 13, true, [s00.cells]⟩)).push ⟨T.ty_api_Outcome, 5, true, [[.int .i64 0, .int .i64 0, .int .i64 0, .nils, .nils]]⟩).set (X.next + 1) (some ⟨T.ty_api_Outcome, 5, true, [[.int .i64 0, .int .i64 0, .int .i64 80, .nils, .nils]]⟩))) b cb wb tb (z_d2 code words tape) :=
  (fix1.of (m' := z_d2 code words tape) rfl rfl).keep (by simp) (by simp (disch := omega)) (by simp (disch := omega))
 have hF : Far b cb wb tb X.next (X.next + 1) := ⟨by omega, by omega, by omega, by omega, by omega, by omega, by omega, by omega, by omega, by omega, by omega, by omega, by omega, by omega, by omega⟩
 have hG : RI (((((X.push ⟨T.ty_api_State, 13, true, [s00.cells]⟩).set X.next (some ⟨T.ty_api_State, 13, true, [s00.cells]⟩)).push ⟨T.ty_api_Outcome, 5, true, [[.int .i64 0, .int .i64 0, .int .i64 0, .nils, .nils]]⟩).set (X.next + 1) (some ⟨T.ty_api_Outcome, 5, true, [[.int .i64 0, .int .i64 0, .int .i64 80, .nils, .nils]]⟩))) b cb wb tb X.next (X.next + 1) (z_d2 code words tape) 0 80 [] :=
  ⟨Hp.WF.set (Hp.WF.push wfs) (by simp), fix2, by simp; omega, by simp; omega, by simp, by simp (disch := omega) [outB, g0], ⟨0, true, by simp (disch := omega) [outB, lAV], fun h => (h rfl).elim⟩⟩
 have key : ∃ fr' B', aloop exeL (AFr.al [(3, .int .i64 (min lim 1048576)), (8, .ptr 0 5 0 0), (9, .ptr b 5 0 0), (10, .ptr X.next 13 0 0), (12, .ptr (X.next + 1) 5 0 0), (13, .bool true)]) ((((((X.push ⟨T.ty_api_State, 13, true, [s00.cells]⟩).set X.next (some ⟨T.ty_api_State, 13, true, [s00.cells]⟩)).push ⟨T.ty_api_Outcome, 5, true, [[.int .i64 0, .int .i64 0, .int .i64 0, .nils, .nils]]⟩).set (X.next + 1) (some ⟨T.ty_api_Outcome, 5, true, [[.int .i64 0, .int .i64 0, .int .i64 80, .nils, .nils]]⟩))).rmem b cb wb tb (z_d2 code words tape)) =
   some (.exit 2, fr', B'.rmem b cb wb tb (goL n s00 (z_d2 code words tape)).2.1) ∧ (fr' 8 = .ptr 0 5 0 0 ∧ fr' 9 = .ptr b 5 0 0 ∧ fr' 12 = .ptr (X.next + 1) 5 0 0) ∧ RI B' b cb wb tb X.next (X.next + 1) (goL n s00 (z_d2 code words tape)).2.1 (goL n s00 (z_d2 code words tape)).1.length (goL n s00 (z_d2 code words tape)).2.2 (goL n s00 (z_d2 code words tape)).1 := by
  by_cases h0 : lim ≤ 0
  ·obtain rfl : n = 0 := by omega
   obtain ⟨fr', h1, h2⟩ := z_l7 _ b cb wb tb X.next (X.next + 1) hF _ (min lim 1048576) true [] 0 80 [] (.inr (by omega)) hG
   exact ⟨fr', _, h1, h2, hG⟩
  ·obtain ⟨fr', B', h1, h2, h3⟩ := z_tn b cb wb tb X.next (X.next + 1) hF n (by omega) n _ s00 (z_d2 code words tape) [] [] (by simp) hok hG (by simp (disch := omega) [stBlk])
   have e : (min lim 1048576) = (n : Int) := by omega
   rw [e]
   exact ⟨fr', B', h1, h2, by simpa using h3⟩
 obtain ⟨fr', B', hl, ⟨f1, f2, f3⟩, ⟨wf', fix', lc', ns', no', fst', c, fl, out, hcc⟩⟩ := key
 unfold outAV
 clear hG fix2 fix1 fix wfs
 have hwl := hK.words
 have hws : (z_d2 code words tape).words.length = words.length := rfl
 rw [hws] at hwl
 generalize goL n s00 (z_d2 code words tape) = R at *
 obtain ⟨ls, m', e⟩ := R
 dsimp only at *
 simp only [if_true]
 obtain ⟨s0, s1, s2, s3, s4, s5, o0, o1, o2, o3, o4, z1, z2, z3, z4⟩ := hF
 have q1 := fix'.hb; have q2 := fix'.hwb; have q3 := fix'.bw
 unfold exeL at hl
 unfold exeL0 at w1
 have es : s00.cells = [W32 0#32, W32 0#32, W32 0#32, W32 0#32, W32 0#32, W32 0#32, W32 0#32, W32 0#32, W32 0#32, .bool false, .bool false, .bool false, .bool false] := rfl
 rw [es] at hl w1
 simp only [outB] at out fst'
 have hGb : ∀ B'' : Hp, (B''.rmem b cb wb tb m').get b = some (rBlk cb wb tb m') := fun B'' => by rw [z_by, if_pos rfl]
 have hmin : (¬ 1048576 < lim → min lim 1048576 = lim) ∧ (1048576 < lim → min lim 1048576 = 1048576) := ⟨fun h => by omega, fun h => by omega⟩
 have hnx : (B'.next : Nat) > X.next := ns'
 by_cases hW0 : words.length = 0
 ·have hwnil : m'.words = [] := List.eq_nil_of_length_eq_zero (by omega)
  have hnil : w32s [] = ([] : List (List AV)) := rfl
  have hc0 : cAV wb 0 = .nils := rfl
  simp only [rBlk, hwl, hW0, hc0] at hGb
  rw [hwnil]
  by_cases hlim : 1048576 < lim
  all_goals
   first | rw [hmin.1 hlim] at hl | rw [hmin.2 hlim] at hl
   by_cases hls : ls = []
   ·subst hls
    simp only [lAV, if_true] at out
    simp -implicitDefEqProofs +contextual (disch := try first | omega | assumption | (simp only [Hp.next_set, Hp.next_push]; omega) | (simp; done)) [z_be.spec, z_be, hn, w1, w2, w3, w4, w5, hl, f1, f2, f3, out, fst', hGb, hlim, hnil, z_ct, z_dg, z_c4]
   ·obtain ⟨c0, c1, c2, c3, c4, c6, c7, hcg⟩ := hcc hls
    have hc7 := wf' _ _ hcg
    simp only [lAV, hls, if_false] at out
    simp -implicitDefEqProofs +contextual (disch := try first | omega | assumption | (simp only [Hp.next_set, Hp.next_push]; omega) | (simp; done)) [z_be.spec, z_be, hn, w1, w2, w3, w4, w5, hl, f1, f2, f3, out, fst', hGb, hlim, hnil, hcg, z_ct, z_dg, z_c4]
    exact List.take_of_length_le (by simp)
 ·have hGw : ∀ B'' : Hp, (B''.rmem b cb wb tb m').get wb = some (z_d1 m'.words) := fun B'' => by rw [z_by, if_neg q3, if_pos ⟨rfl, by omega⟩]
  have hc0 := z_im wb words.length (by omega)
  simp only [rBlk, hwl, hc0, z_d1] at hGb hGw
  by_cases hlim : 1048576 < lim
  all_goals
   first | rw [hmin.1 hlim] at hl | rw [hmin.2 hlim] at hl
   by_cases hls : ls = []
   ·subst hls
    simp only [lAV, if_true] at out
    simp -implicitDefEqProofs +contextual (disch := try first | omega | assumption | (simp only [Hp.next_set, Hp.next_push]; omega) | (simp; done)) [z_be.spec, z_be, hn, w1, w2, w3, w4, w5, hl, f1, f2, f3, out, fst', hGb, hGw, hlim, hwl, z_ct, z_dg, z_c4]
    rw [← hwl]; simp
   ·obtain ⟨c0, c1, c2, c3, c4, c6, c7, hcg⟩ := hcc hls
    have hc7 := wf' _ _ hcg
    simp only [lAV, hls, if_false] at out
    simp -implicitDefEqProofs +contextual (disch := try first | omega | assumption | (simp only [Hp.next_set, Hp.next_push]; omega) | (simp; done)) [z_be.spec, z_be, hn, w1, w2, w3, w4, w5, hl, f1, f2, f3, out, fst', hGb, hGw, hlim, hwl, hcg, z_ct, z_dg, z_c4]
    rw [← hwl]; simp
    exact List.take_of_length_le (by simp)
end Go.Abs
end
section
namespace Go.Abs
open Th
theorem z_pp (c : CodeM) (hok : opsOk c.ops c.inN = true) (hin : 0 ≤ c.inN) (m : List Nat) (hm : ∀ x ∈ m, x ≤ 16000) : ∀ k, k ≤ c.ops.length → UsedL (upI c m k)
 | 0, _ => by simpa [upI] using z_pe
 | k + 1, h => by
  rw [z_jh]
  have e1 : c.ops.getD k opZ = c.ops[k] := by simp [List.getD_eq_getElem?_getD, show k < c.ops.length by omega]
  have h3 := (z_e2 _ _).1 hok k (by omega)
  have hf := z_tl c.ops[k] _ h3 m hm (m.getD (c.inN.toNat + k) 0) (z_ik m hm _)
  refine (z_pp c hok hin m hm k (by omega)).append ?_
  rw [blkI, e1]
  exact z_kv _ (z_la _ _ _ hf).2.2.2.2 _ (z_ik m hm _) _ (by have := z_ji m c.ops[k]; omega) (z_og m hm _)
end Go.Abs
end
section
section
namespace Go.Abs
open Th
def fillW (inp : List (BitVec 32)) (m : Nat) : Nat → List (BitVec 32)
 | 0 => List.replicate m 0#32
 | k + 1 => if k < inp.length then (fillW inp m k).set k (at0 inp k) else fillW inp m k
@[simp] theorem z_e4 (inp : List (BitVec 32)) (m : Nat) : ∀ k, (fillW inp m k).length = m
 | 0 => by simp [fillW]
 | k + 1 => by rw [fillW]; split <;> simp [z_e4 inp m k]
theorem z_p3 (inp : List (BitVec 32)) (m y : Nat) (hy : y < m) : ∀ k, at0 (fillW inp m k) y = if y < k then at0 inp y else 0#32
 | 0 => by rw [fillW, if_neg (by omega)]; simp [at0, List.getD_eq_getElem?_getD, hy]
 | k + 1 => by
  have ih := z_p3 inp m y hy k
  rw [fillW]
  by_cases h : k < inp.length
  ·rw [if_pos h, z_t8, z_e4, ih]
   by_cases e : k = y
   ·subst e; rw [if_pos ⟨rfl, hy⟩, if_pos (by omega)]
   ·rw [if_neg (fun q => e q.1)]
    by_cases h2 : y < k
    ·rw [if_pos h2, if_pos (by omega)]
    ·rw [if_neg h2, if_neg (by omega)]
  ·rw [if_neg h, ih]
   by_cases h2 : y < k
   ·rw [if_pos h2, if_pos (by omega)]
   ·rw [if_neg h2]
    by_cases e : y = k
    ·subst e
     rw [if_pos (by omega)]
     simp [at0, List.getD_eq_getElem?_getD, List.getElem?_eq_none (show inp.length ≤ y by omega)]
    ·rw [if_neg (by omega)]
noncomputable abbrev erL0 := law25_EmitRuns.l0 z_cz.spec z_bx.spec z_cr.spec z_c3.spec z_bf.spec z_co.spec z_be.spec z_bd.spec
theorem z_zb (c : CodeM) (n : Nat) (hn : c.inN = n) (hn4 : n ≤ 4000) (inp : List (BitVec 32)) (m : Nat) (hm : n ≤ m) (mb : Nat) (hmb : mb ≠ 0) (v7 v8 v11 : AV) (X : Hp) (hw : X.WF) (h0 : X.get 0 = some (z_bp c)) (gm : X.get mb = some ⟨T.ty_uint32, 1, true, w32s (fillW inp m 0)⟩) {r}
  (hr : aloop erL0 (AFr.al [(1, .rsl 1 (w32s inp)), (3, .ptr 0 3 0 0), (7, v7), (8, v8), (10, .sl mb 1 0 m), (11, v11), (12, .int .i64 0)]) X = r) :
  ∃ e fr' X', r = some (e, fr', X') ∧ (e = .exit 0 ∧ X'.WF ∧ X'.get 0 = some (z_bp c) ∧ X'.get mb = some ⟨T.ty_uint32, 1, true, w32s (fillW inp m n)⟩ ∧ ∃ y, fr' = AFr.al ([(1, .rsl 1 (w32s inp)), (3, .ptr 0 3 0 0), (7, v7), (8, v8), (10, .sl mb 1 0 m), (11, v11)] ++ y)) := by
 refine z_ee hr (z_cf n (fun k fr H => ∃ y, fr = AFr.al ([(1, .rsl 1 (w32s inp)), (3, .ptr 0 3 0 0), (7, v7), (8, v8), (10, .sl mb 1 0 m), (11, v11), (12, .int .i64 k)] ++ y) ∧ H.WF ∧ H.get 0 = some (z_bp c) ∧ H.get mb = some ⟨T.ty_uint32, 1, true, w32s (fillW inp m k)⟩) _ (fun k hk fr H hR => ?_) (fun fr H hR => ?_) ⟨[], rfl, hw, h0, gm⟩)
 ·obtain ⟨y, rfl, hw, g0, gm⟩ := hR
  have hk' : (k : Int) < n := by omega
  have hk1 : ((k + 1 : Nat) : Int) = (k : Int) + 1 := by omega
  have b0 := hw _ _ g0
  have b1 := hw _ _ gm
  have n1 : ¬ 0 = mb := fun e => hmb e.symm
  rw [z_at, hn] at g0
  simp only [z_at, hn]
  have hlen := z_e4 inp m k
  rw [fillW, hk1]
  generalize fillW inp m k = l at *
  by_cases h : k < inp.length
  ·have h' : (k : Int) < inp.length := by omega
   rw [if_pos h]
   refine ⟨_, _, _, by simp -implicitDefEqProofs +contextual (disch := omega) [law25_EmitRuns.l0, g0, gm, hk', h, h', hlen]; first | rfl | exact ⟨rfl, rfl⟩ | exact ⟨rfl, rfl, rfl⟩, .inl ⟨rfl, _, rfl, ?_, ?_, ?_⟩⟩
   ·(repeat' (first | assumption | with_reducible apply Hp.WF.push | with_reducible apply Hp.WF.set | with_reducible apply z_az | exact Hp.WF.empty)) <;> (simp <;> omega)
   ·simp (disch := omega) [g0, n1]
   ·simp (disch := omega) [gm]
  ·have h' : ¬ (k : Int) < inp.length := by omega
   rw [if_neg h]
   refine ⟨_, _, _, by simp -implicitDefEqProofs +contextual (disch := omega) [law25_EmitRuns.l0, g0, gm, hk', h, h', hlen]; first | rfl | exact ⟨rfl, rfl⟩ | exact ⟨rfl, rfl, rfl⟩, .inl ⟨rfl, _, rfl, hw, g0, gm⟩⟩
 ·obtain ⟨y, rfl, hw, g0, gm⟩ := hR
  have g0' := g0
  rw [z_at, hn] at g0
  refine ⟨_, _, _, by simp -implicitDefEqProofs +contextual (disch := omega) [law25_EmitRuns.l0, g0]; first | rfl | exact ⟨rfl, rfl⟩ | exact ⟨rfl, rfl, rfl⟩, by simp, rfl, hw, g0', gm, _, rfl⟩
end Go.Abs
end
section
namespace Go.Abs
open Th
noncomputable abbrev erL1 := law25_EmitRuns.l1 z_cz.spec z_bx.spec z_cr.spec z_c3.spec z_bf.spec z_co.spec z_be.spec z_bd.spec
theorem z_za (c : CodeM) (n : Nat) (hn : c.inN = n) (hn4 : n ≤ 4000) (ho : c.outs.length ≤ 1000000) (W vals : List (BitVec 32)) (hW : W.length ≤ 16000) (hq : ∀ j, j < c.outs.length → n + j < W.length ∧ 0 ≤ ati c.outs j ∧ (ati c.outs j).toNat < vals.length ∧ at0 W (n + j) = at0 vals (ati c.outs j).toNat) (a b e : AV) (L : AV) (fl : Bool) (ob : Nat) (X : Hp) (h0 : X.get 0 = some (z_bp c)) (go : X.get ob = some ⟨T.ty_api_Outcome, 5, fl, [[a, b, e, .rsl 1 (w32s W), L]]⟩) {r}
  (hr : aloop erL1 (AFr.al [(3, .ptr 0 3 0 0), (13, .ptr ob 5 0 0), (14, .rsl 1 (w32s vals)), (16, .int .i64 0)]) X = r) :
  ∃ e fr' X', r = some (e, fr', X') ∧ (e = .exit 2 ∧ X' = X) := by
 rw [z_at, hn] at h0
 refine z_ee hr (z_cf c.outs.length (fun k fr H => H = X ∧ ∃ y, fr = AFr.al ([(3, .ptr 0 3 0 0), (13, .ptr ob 5 0 0), (14, .rsl 1 (w32s vals)), (16, .int .i64 k)] ++ y)) _ (fun k hk fr H hR => ?_) (fun fr H hR => ?_) ⟨rfl, [], rfl⟩)
 ·obtain ⟨rfl, y, rfl⟩ := hR
  have hk' : (k : Int) < c.outs.length := by omega
  have hk1 : ((k + 1 : Nat) : Int) = (k : Int) + 1 := by omega
  obtain ⟨q1, q2, q3, q4⟩ := hq k hk
  obtain ⟨A, hA⟩ : ∃ A : Nat, ati c.outs k = A := ⟨(ati c.outs k).toNat, by omega⟩
  rw [hA, Int.toNat_natCast] at q3 q4
  have hN : (n : Int) + k = ((n + k : Nat) : Int) := by omega
  generalize n + k = N at *
  rw [hk1]
  refine ⟨_, _, _, by simp -implicitDefEqProofs +contextual (disch := omega) [law25_EmitRuns.l1, h0, go, hk, hk', hA, hN, q1, q3, q4]; first | rfl | exact ⟨rfl, rfl⟩ | exact ⟨rfl, rfl, rfl⟩, .inl ⟨rfl, rfl, _, rfl⟩⟩
 ·obtain ⟨rfl, y, rfl⟩ := hR
  refine ⟨_, _, _, by simp -implicitDefEqProofs +contextual (disch := omega) [law25_EmitRuns.l1, h0]; first | rfl | exact ⟨rfl, rfl⟩ | exact ⟨rfl, rfl, rfl⟩, by simp, rfl, rfl⟩
theorem z_wj (l : List (BitVec 32)) (n y : Nat) (h : y < n) : at0 (padM l n) y = at0 l y := by
 unfold padM at0
 rw [List.getD_eq_getElem?_getD, List.getElem?_map, List.getElem?_range h]
 rfl
theorem ran25 (c : CodeM) (hlay : layOk c = true) (n : Nat) (hn : c.inN = n) (h1 : c.ops.length ≤ 120) (hw : z_eq c ≤ 420) (W0 : List (BitVec 32)) (hW : W0.length = z_eq c) (T : List (BitVec 32)) (hT : c.randoms ≤ T.length) (inp : List (BitVec 32)) (hin : ∀ y, y < n → at0 W0 y = at0 (padM inp n) y) (q : Nat) (hq : (codeI c (z_df c)).length ≤ q) :
  ∃ (ls : List LeakM) (m' : MemM), goL q s00 (z_d2 (hlfs (codeI c (z_df c))) W0 T) = (ls, m', 0) ∧ ls.length = (codeI c (z_df c)).length ∧ m'.drawn = c.randoms ∧ m'.words.length = z_eq c ∧
   ∀ j, j < c.outs.length → n + j < m'.words.length ∧ 0 ≤ ati c.outs j ∧ (ati c.outs j).toNat < n + c.ops.length ∧ at0 m'.words (n + j) = at0 (z_cs c.ops (padM inp n) T) (ati c.outs j).toNat := by
 obtain ⟨g, W, t1, t2, t3, t4, t5⟩ := z_ry c hlay n hn W0 hW (by omega) T hT (padM inp n) (by simp) hin c.ops.length (Nat.le_refl _)
 rw [List.take_length] at t1 t5
 have hs := z_jj c hlay n hn
 have hcan := z_f3 c hlay
 have hcan' := hcan
 unfold CodeM.can at hcan'
 simp only [Bool.and_eq_true, decide_eq_true_eq] at hcan'
 have hle : ∀ x ∈ z_df c, x ≤ 16000 := by
  intro x hx
  obtain ⟨i, hi, rfl⟩ := List.getElem_of_mem hx
  have := hs.low i (by rw [← hs.len]; simpa [z_df] using hi)
  have e := z_ev c i
  rw [List.getD_eq_getElem?_getD, List.getElem?_eq_getElem hi] at e
  simp only [Option.getD_some] at e
  omega
 have hu := z_pp c hcan'.1.2 hcan'.1.1.1.1 (z_df c) hle c.ops.length (Nat.le_refl _)
 have hl := z_mn c (z_df c) c.ops.length
 have hcl : (codeI c (z_df c)).length = (upI c (z_df c) c.ops.length).length + 1 := by simp [codeI]
 obtain ⟨ls, m', e1, e2, e3, e4⟩ := z_vd _ hu (by omega) W0 T g W _ t1 q (by omega)
 refine ⟨ls, m', e1, by rw [e2, hcl], e4, by rw [e3, t4, hW], fun j hj => ?_⟩
 have ho := z_lr c hcan j hj
 have hA : (ati c.outs j).toNat < n + c.ops.length := by omega
 have h5 := t5 _ hA (.inl (by rw [z_jk c n _ hA ⟨j, hj, rfl⟩]; omega))
 rw [z_ev, hs.out j hj, Int.toNat_natCast] at h5
 have hlo := hs.low _ hA
 rw [hs.out j hj] at hlo
 refine ⟨by rw [e3, t4, hW]; omega, ho.1, hA, by rw [e3]; exact h5⟩
end Go.Abs
end
section
namespace Go.Abs
open Th
theorem lim_le (k : Nat) (h : k ≤ 3000) : k ≤ (min (max ((k : Int) + 5) 0) 1048576).toNat := by omega
theorem emitRuns_law (c : CodeM) (inp l : List (BitVec 32)) (hi : inp.length ≤ 100000000000000) (hl : l.length ≤ 1000000000000000) : law25_EmitRuns.spec [.agg c.cells, .rsl 1 (w32s inp), .rsl 1 (w32s l)] = some (.bool true) := by
 have hF := few_eq c
 cases hf : fewM c with
 | false =>
  rw [hf] at hF
  unfold CodeM.cells at *
  simp -implicitDefEqProofs +contextual (disch := omega) [law25_EmitRuns.spec, law25_EmitRuns, hF, lives25]
 | true =>
  rw [hf] at hF
  unfold fewM at hf
  simp only [Bool.and_eq_true, decide_eq_true_eq] at hf
  obtain ⟨⟨f1, f2⟩, f3⟩ := hf
  have hQ := z_su c (by omega) (by omega)
  cases hlay : layOk c with
  | false =>
   rw [hlay] at hQ
   unfold CodeM.cells at *
   simp -implicitDefEqProofs +contextual (disch := omega) [law25_EmitRuns.spec, law25_EmitRuns, hF, hQ, lives25]
  | true =>
   rw [hlay] at hQ
   have hcan := z_f3 c hlay
   have hcan' := hcan
   unfold CodeM.can at hcan'
   simp only [Bool.and_eq_true, decide_eq_true_eq] at hcan'
   obtain ⟨n, hn⟩ : ∃ n : Nat, c.inN = n := ⟨c.inN.toNat, by omega⟩
   have hw := z_mj c f1 f2 f3
   have hLd := z_yo c hlay f1 f2 f3
   have hR := z_jw c (by omega)
   have hrn : c.randoms ≤ 120 := by have := z_oq c.ops; have : rndL c.ops = c.randoms := rfl; omega
   have hT := z_rz l hl c.randoms (by omega)
   have hcb := z_at c
   rw [hn] at hcb
   unfold CodeM.cells at *
   rw [hn] at hF hQ hLd hR ⊢
   have hrep : List.replicate (z_eq c) [W32 0#32] = w32s (fillW inp (z_eq c) 0) := by rw [fillW, z_pn]
   have hwl : (w16s (hlfs (codeI c (z_df c)))).length = (codeI c (z_df c)).length := by simp
   generalize hWd : z_eq c = Wd at *
   simp -implicitDefEqProofs +contextual (disch := omega) [law25_EmitRuns.spec, law25_EmitRuns, hF, hQ, hLd, hR, hT, hrep]
   generalize hr : aloop _ _ _ = r
   have hnW : n ≤ Wd := by rw [← hWd]; unfold z_eq; rw [hn, Int.toNat_natCast]; omega
   have h1 := fun hw h0 gm => z_zb c n hn (by omega) inp Wd hnW 1 (by omega) _ _ _ _ hw h0 gm hr
   obtain ⟨e, fr', X', rfl, rfl, w1, g1, gm, y, rfl⟩ := h1 (by (repeat' (first | assumption | with_reducible apply Hp.WF.push | with_reducible apply Hp.WF.set | with_reducible apply z_az | exact Hp.WF.empty)) <;> (simp <;> omega)) (by simp [hcb]) (by simp)
   clear h1 hr
   rw [hcb] at g1
   have hclen : (codeI c (z_df c)).length ≤ 3000 := by have := z_mn c (z_df c) c.ops.length; simp [codeI]; omega
   obtain ⟨ls, m', r1, r2, r3, r4, r5⟩ := ran25 c hlay n hn f1 (by omega) (fillW inp Wd n) (by rw [z_e4, hWd]) (tapeM l c.randoms) (by simp) inp (fun y hy => by rw [z_p3 _ _ _ (by omega), if_pos hy, z_wj _ _ _ hy]) ((min (max (((codeI c (z_df c)).length : Int) + 5) 0) 1048576).toNat) (lim_le _ hclen)
   have hX := exe_eq (hlfs (codeI c (z_df c))) (fillW inp Wd n) (tapeM l c.randoms) ((codeI c (z_df c)).length + 5) (by simp; omega) (by simp; omega) (by simp; omega)
   rw [r1] at hX
   unfold outAV at hX
   dsimp only at hX
   rw [r2, r3, if_pos rfl] at hX
   have hEx := z_vl c (by omega) (by omega) inp (tapeM l c.randoms) ⟨hi, by simp; omega⟩
   unfold CodeM.exec at hEx
   rw [if_pos ⟨hcan, by simp⟩] at hEx
   unfold CodeM.cells at hEx
   rw [hn, Int.toNat_natCast] at hEx
   have hfl := z_e4 inp Wd n
   have hvl : (z_cs c.ops (padM inp n) (tapeM l c.randoms)).length = n + c.ops.length := by rw [z_e9]; simp
   have htl := z_mp l c.randoms
   have hall : (w32s (fillW inp Wd n)).take Wd = w32s (fillW inp Wd n) := List.take_of_length_le (by simp)
   have hq := z_za c n hn (by omega) (by omega) m'.words (z_cs c.ops (padM inp n) (tapeM l c.randoms)) (by omega) (fun j hj => by have := r5 j hj; rw [hvl]; exact this)
   generalize hCL : (codeI c (z_df c)).length = CL at *
   generalize z_cs c.ops (padM inp n) (tapeM l c.randoms) = V at *
   generalize w16s (hlfs (codeI c (z_df c))) = CO at *
   generalize tapeM l c.randoms = TT at *
   generalize fillW inp Wd n = FW at *
   have b0 := w1 _ _ g1
   have b0' : ¬ 0 = X'.next := by omega
   simp -implicitDefEqProofs +contextual (disch := omega) [g1, gm, hall, hwl, hX, hEx, htl, r4, hWd, b0']
   generalize hr : aloop _ _ _ = r
   have h1 := fun h0 go => hq (.int .i64 CL) (.int .i64 c.randoms) (.int .i64 0) (.rsl 10 (lrows ls)) true X'.next _ h0 go hr
   obtain ⟨e, fr2, X2, rfl, rfl, rfl⟩ := h1 (by simp (disch := omega) [g1, hcb, b0']) (by simp)
   simp -implicitDefEqProofs +contextual (disch := omega) [lives25]
theorem law25_EmitRuns_law (args : List AV) (h : z_fv [(true, [.int .i64, .sl 4 32 [.int .i64, .int .i64, .int .i64, .int .u32], .sl 1 8 [.int .i64]]), (false, [.sl 1 4 [.int .u32]]), (false, [.sl 1 4 [.int .u32]])] args) : law25_EmitRuns.spec args = some (.bool true) := by
 obtain ⟨cs, _, rfl, h1, h⟩ := z_wl h
 obtain ⟨a, _, rfl, h2, h⟩ := z_qb h
 obtain ⟨b, _, rfl, h3, h⟩ := z_qb h
 obtain rfl := z_wk h
 obtain ⟨c, r, rfl, hr, _, _, _⟩ := z_x3 h1
 obtain rfl := z_r9 hr
 rw [List.append_nil]
 obtain ⟨x, rfl, hx⟩ := z_sa h2.1
 obtain ⟨l, rfl, hl⟩ := z_sa h3.1
 exact emitRuns_law c x l (by omega) (by omega)
end Go.Abs
end
end
