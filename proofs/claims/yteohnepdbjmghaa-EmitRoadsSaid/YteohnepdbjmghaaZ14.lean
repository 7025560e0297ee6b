/-
  What code comes to: the document's run, whole.
-/
import Derived.Test.YteohnepdbjmghaaZ13
import Derived.Test.YteohnepdbjmghaaZ12
import Derived.Test.YteohnepdbjmghaaZ3
import Derived.Test.YteohnepdbjmghaaZ9
import Derived.Test.YteohnepdbjmghaaZ6
import Derived.Test.YteohnepdbjmghaaZ4
import Derived.Test.YteohnepdbjmghaaZ5
import Derived.Test.YteohnepdbjmghaaZ11
set_option linter.unusedSimpArgs false
set_option linter.unusedVariables false
set_option maxHeartbeats 20000000
set_option maxRecDepth 100000
section
namespace Go.Abs
open Th
theorem z_md (B : Hp) (b cb wb tb so oo : Nat) (F : Far b cb wb tb so oo) (m : MemM) (lim : Int) (on : Bool) (x : List (Nat × AV)) (k : Nat) (e : Int) (ls : List LeakM) (hon : on = false ∨ lim ≤ k) (G : RI B b cb wb tb so oo m k e ls) :
  ∃ fr', aloop exeL (AFr.al ((3, .int .i64 lim) :: (8, .ptr 0 5 0 0) :: (9, .ptr b 5 0 0) :: (10, .ptr so 13 0 0) :: (12, .ptr oo 5 0 0) :: (13, .bool on) :: x)) (B.rmem b cb wb tb m) = some (.exit 2, fr', B.rmem b cb wb tb m) ∧ fr' 8 = .ptr 0 5 0 0 ∧ fr' 9 = .ptr b 5 0 0 ∧ fr' 12 = .ptr oo 5 0 0 := by
 obtain ⟨wf, fix, lc, ns, no, fst, c, fl, out, hc⟩ := G
 obtain ⟨s0, s1, s2, s3, s4, s5, o0, o1, o2, o3, o4, z1, z2, z3, z4⟩ := F
 simp only [outB] at out
 cases on with
 | false =>
  refine ⟨?_, z_bz (by simp) ?_, ?_⟩
  rotate_left
  ·simp -implicitDefEqProofs +contextual (disch := omega) [exeL, z_bf.l1, out, z_c2]
   rfl
  ·exact ⟨rfl, rfl, rfl⟩
 | true =>
  have hk : ¬ (k : Int) < lim := by rcases hon with h | h; cases h; omega
  refine ⟨?_, z_bz (by simp) ?_, ?_⟩
  rotate_left
  ·simp -implicitDefEqProofs +contextual (disch := omega) [exeL, z_bf.l1, out, z_c2, hk]
   rfl
  ·exact ⟨rfl, rfl, rfl⟩
theorem z_t2 (b cb wb tb so oo : Nat) (F : Far b cb wb tb so oo) (lim : Nat) (hl : lim ≤ 1048576) : ∀ (d : Nat) (B : Hp) (s : StM) (m : MemM) (ls : List LeakM) (x : List (Nat × AV)), ls.length + d = lim → m.Ok → RI B b cb wb tb so oo m ls.length 80 ls → B.get so = some (stBlk s) →
  ∃ fr' B', aloop exeL (exeF lim b so oo true x) (B.rmem b cb wb tb m) = some (.exit 2, fr', B'.rmem b cb wb tb (goL d s m).2.1) ∧ (fr' 8 = .ptr 0 5 0 0 ∧ fr' 9 = .ptr b 5 0 0 ∧ fr' 12 = .ptr oo 5 0 0) ∧ RI B' b cb wb tb so oo (goL d s m).2.1 (ls ++ (goL d s m).1).length (goL d s m).2.2 (ls ++ (goL d s m).1)
 | 0, B, s, m, ls, x, h, hm, G, hs => by
  obtain rfl : ls.length = lim := by omega
  obtain ⟨fr', h1, h2⟩ := z_md B b cb wb tb so oo F m ls.length true x ls.length 80 ls (.inr (Int.le_refl _)) G
  exact ⟨fr', B, h1, h2, by simpa [goL] using G⟩
 | d + 1, B, s, m, ls, x, h, hm, G, hs => by
  unfold goL
  rcases z_wl B b cb wb tb so oo F s m hm lim x hl ls (by omega) G hs with ⟨he, B', h1, h2⟩ | ⟨he, hst, B', h1, h2⟩ | ⟨he, hst, B', h1, h2, h3⟩
  ·rw [if_pos he]
   obtain ⟨fr', q1, q2⟩ := z_md B' b cb wb tb so oo F _ lim false [] _ _ _ (.inl rfl) h2
   exact ⟨fr', B', by rw [z_dl h1]; exact q1, q2, by simpa using h2⟩
  ·rw [if_neg (by rw [he]; simp), if_pos hst]
   obtain ⟨fr', q1, q2⟩ := z_md B' b cb wb tb so oo F _ lim false [] _ _ _ (.inl rfl) h2
   exact ⟨fr', B', by rw [z_dl h1]; exact q1, q2, by simpa using h2⟩
  ·rw [if_neg (by rw [he]; simp), if_neg (by rw [hst]; simp)]
   obtain ⟨fr', B2, q1, q2, q3⟩ := z_t2 b cb wb tb so oo F lim hl d B' (stepM s m).s (stepM s m).m (ls ++ [leakM s m]) [(76, .bool false)] (by simp; omega) ((z_fe s m).ok hm) (by simpa using h2) h3
   exact ⟨fr', B2, by rw [z_dl h1, q1], q2, by simpa using q3⟩
noncomputable abbrev exeL0 := z_bf.l0 z_b1.spec z_by.spec
theorem z_zq (B : Hp) (b cb wb tb : Nat) (m : MemM) (fix : RFix B b cb wb tb m) (words : List (BitVec 32)) (k : Nat) (hk : k < words.length) (hl : m.words.length = words.length) (hl2 : words.length ≤ 16000) (a c d : AV) :
  exeL0 (AFr.al [(1, .rsl 1 (w32s words)), (3, a), (8, c), (9, .ptr b 5 0 0), (10, d), (11, .int .i64 k)]) (B.rmem b cb wb tb m) =
   some (.normal, AFr.al [(1, .rsl 1 (w32s words)), (3, a), (8, c), (9, .ptr b 5 0 0), (10, d), (11, .int .i64 (k + 1 : Nat))], B.rmem b cb wb tb { m with words := m.words.set k (at0 words k) }) := by
 have hc := z_in wb words.length (by omega)
 have hG : (B.rmem b cb wb tb m).get b = some (rBlk cb wb tb m) := by rw [z_bx, if_pos rfl]
 have hW : (B.rmem b cb wb tb m).get wb = some (z_d3 m.words) := by rw [z_bx, if_neg fix.bw, if_pos ⟨rfl, by omega⟩]
 have hst := z_nd B b cb wb tb m { m with words := m.words.set k (at0 words k) } fix.bw.symm (by simp) (by omega) (by simp [rBlk])
 simp only [rBlk, z_d3, hl, hc] at hG hW hst
 have h1 : (k : Int) < (words.length : Int) := by omega
 simp -implicitDefEqProofs +contextual (disch := omega) [exeL0, z_bf.l0, hG, hW, h1, hl, hk, hst]
theorem z_t1 (B : Hp) (b cb wb tb : Nat) (code : List (BitVec 16)) (words tape : List (BitVec 32)) (fix : RFix B b cb wb tb (MemM.new code words.length tape)) (hl2 : words.length ≤ 16000) (a c d : AV) :
  ∃ fr', aloop exeL0 (AFr.al [(1, .rsl 1 (w32s words)), (3, a), (8, c), (9, .ptr b 5 0 0), (10, d), (11, .int .i64 0)]) (B.rmem b cb wb tb (MemM.new code words.length tape)) = some (.exit 0, fr', B.rmem b cb wb tb (z_dm code words tape)) ∧
   fr' 3 = a ∧ fr' 8 = c ∧ fr' 9 = .ptr b 5 0 0 ∧ fr' 10 = d := by
 have hl : (MemM.new code words.length tape).words.length = words.length := by simp only [MemM.new, List.length_replicate]; omega
 have h := z_qp (f := exeL0) (fun k => AFr.al [(1, .rsl 1 (w32s words)), (3, a), (8, c), (9, .ptr b 5 0 0), (10, d), (11, .int .i64 (k : Nat))]) (fun k => B.rmem b cb wb tb ((MemM.new code words.length tape).put4 words k)) words.length (fun k hk => by
  obtain ⟨q1, q2, q3, q4⟩ := z_tg (MemM.new code words.length tape) words k
  exact z_zq B b cb wb tb _ (fix.of q1 q2) words k hk (by rw [q3, hl]) hl2 a c d) 0 (by omega)
 rw [z_q7 code words tape hl2] at h
 have hG : (B.rmem b cb wb tb (z_dm code words tape)).get b = some (rBlk cb wb tb (z_dm code words tape)) := by rw [z_bx, if_pos rfl]
 by_cases h0 : words.length = 0
 ·have hc : cAV wb 0 = .nils := rfl
  refine ⟨?_, h.trans (z_bz (by simp) ?_), ?_⟩
  rotate_left
  ·simp only [rBlk, z_dm, h0, hc] at hG ⊢
   simp -implicitDefEqProofs +contextual (disch := omega) [exeL0, z_bf.l0, hG]
   rfl
  ·exact ⟨rfl, rfl, rfl, rfl⟩
 ·have hc := z_in wb words.length (by omega)
  refine ⟨?_, h.trans (z_bz (by simp) ?_), ?_⟩
  rotate_left
  ·simp only [rBlk, z_dm, hc] at hG ⊢
   simp -implicitDefEqProofs +contextual (disch := omega) [exeL0, z_bf.l0, hG]
   rfl
  ·exact ⟨rfl, rfl, rfl, rfl⟩
theorem z_ua {X : Hp} {b cb wb tb : Nat} {m : MemM} (wf : X.WF) (fix : RFix X b cb wb tb m) (h : 1 ≤ cb) (h2 : 1 ≤ tb) : ∃ cb', 1 ≤ cb' ∧ cb' < X.next ∧ RFix X b cb' wb tb m ∧ ∀ (Y : Hp) (m' : MemM), m'.code = m.code → Y.rmem b cb wb tb m' = Y.rmem b cb' wb tb m' := by
 by_cases h0 : 0 < m.code.length
 ·exact ⟨cb, h, fix.cb wf h0, fix, fun _ _ _ => rfl⟩
 ·refine ⟨tb, h2, fix.tb wf, ⟨fun q => (h0 q).elim, fix.tape, fix.hb, fix.hwb, fix.bw, fix.bt, fix.bt, fix.wt, fix.wt⟩, fun Y m' hm' => ?_⟩
  have : m'.code.length = 0 := by rw [hm']; omega
  simp only [Hp.rmem, rBlk, this, cAV, if_true]
theorem z_xu (code : List (BitVec 16)) (words tape : List (BitVec 32)) (lim : Int) (hc : code.length ≤ 1000000000) (hw : words.length ≤ 16000) (ht : tape.length ≤ 1000000000) :
  z_bf.spec [.rsl 1 (w16s code), .rsl 1 (w32s words), .rsl 1 (w32s tape), .int .i64 lim] = some (outAV (goL (min (max lim 0) 1048576).toNat s00 (z_dm code words tape)) true) := by
 obtain ⟨X, b, cb0, wb, tb, hn, wf, fix0, i1, i20, i3, i4, i5, hX⟩ := z_ys (Hp.empty.push ⟨T.ty_api_Outcome, 5, true, [[.int .i64 0, .int .i64 0, .int .i64 0, .nils, .nils]]⟩) code tape words.length (Hp.WF.push Hp.WF.empty) hc ht
 simp only [Hp.next_push, z_cf, Nat.zero_add] at i1 i20 i3 i4 i5 hX
 have g0 := hX 0 (by omega)
 simp at g0
 obtain ⟨cb, i2, icb, fix, hcb⟩ := z_ua wf fix0 i20 i4
 rw [hcb X _ rfl] at hn
 clear hcb fix0 i20 hX
 have hb := fix.hb; have hwb := fix.hwb; have htb := wf _ _ fix.tape
 have wfs : ((X.push ⟨T.ty_api_State, 13, true, [s00.cells]⟩).set X.next (some ⟨T.ty_api_State, 13, true, [s00.cells]⟩)).WF := Hp.WF.set (Hp.WF.push wf) (by simp)
 have fix1 : RFix ((X.push ⟨T.ty_api_State, 13, true, [s00.cells]⟩).set X.next (some ⟨T.ty_api_State, 13, true, [s00.cells]⟩)) b cb wb tb (MemM.new code words.length tape) := fix.keep (by simp) (by simp (disch := omega)) (by simp (disch := omega))
 obtain ⟨fr1, w1, w2, w3, w4, w5⟩ := z_t1 _ b cb wb tb code words tape fix1 hw (.int .i64 lim) (.ptr 0 5 0 0) (.ptr X.next 13 0 0)
 obtain ⟨n, hn1⟩ : ∃ n : Nat, n = (min (max lim 0) 1048576).toNat := ⟨_, rfl⟩
 rw [← hn1]
 have hok := z_vl code words tape hw ht
 have hK := z_ns n s00 (z_dm code words tape)
 have fix2 : RFix (((((X.push ⟨T.ty_api_State, 13, true, [s00.cells]⟩).set X.next (some ⟨T.ty_api_State, 13, true, [s00.cells]⟩)).push ⟨T.ty_api_Outcome, 5, true, [[.int .i64 0, .int .i64 0, .int .i64 0, .nils, .nils]]⟩).set (X.next + 1) (some ⟨T.ty_api_Outcome, 5, true, [[.int .i64 0, .int .i64 0, .int .i64 80, .nils, .nils]]⟩))) b cb wb tb (z_dm code words tape) :=
  (fix1.of (m' := z_dm code words tape) rfl rfl).keep (by simp) (by simp (disch := omega)) (by simp (disch := omega))
 have hF : Far b cb wb tb X.next (X.next + 1) := ⟨by omega, by omega, by omega, by omega, by omega, by omega, by omega, by omega, by omega, by omega, by omega, by omega, by omega, by omega, by omega⟩
 have hG : RI (((((X.push ⟨T.ty_api_State, 13, true, [s00.cells]⟩).set X.next (some ⟨T.ty_api_State, 13, true, [s00.cells]⟩)).push ⟨T.ty_api_Outcome, 5, true, [[.int .i64 0, .int .i64 0, .int .i64 0, .nils, .nils]]⟩).set (X.next + 1) (some ⟨T.ty_api_Outcome, 5, true, [[.int .i64 0, .int .i64 0, .int .i64 80, .nils, .nils]]⟩))) b cb wb tb X.next (X.next + 1) (z_dm code words tape) 0 80 [] :=
  ⟨Hp.WF.set (Hp.WF.push wfs) (by simp), fix2, by simp; omega, by simp; omega, by simp, by simp (disch := omega) [outB, g0], ⟨0, true, by simp (disch := omega) [outB, lAV], fun h => (h rfl).elim⟩⟩
 have key : ∃ fr' B', aloop exeL (AFr.al [(3, .int .i64 (min lim 1048576)), (8, .ptr 0 5 0 0), (9, .ptr b 5 0 0), (10, .ptr X.next 13 0 0), (12, .ptr (X.next + 1) 5 0 0), (13, .bool true)]) ((((((X.push ⟨T.ty_api_State, 13, true, [s00.cells]⟩).set X.next (some ⟨T.ty_api_State, 13, true, [s00.cells]⟩)).push ⟨T.ty_api_Outcome, 5, true, [[.int .i64 0, .int .i64 0, .int .i64 0, .nils, .nils]]⟩).set (X.next + 1) (some ⟨T.ty_api_Outcome, 5, true, [[.int .i64 0, .int .i64 0, .int .i64 80, .nils, .nils]]⟩))).rmem b cb wb tb (z_dm code words tape)) =
   some (.exit 2, fr', B'.rmem b cb wb tb (goL n s00 (z_dm code words tape)).2.1) ∧ (fr' 8 = .ptr 0 5 0 0 ∧ fr' 9 = .ptr b 5 0 0 ∧ fr' 12 = .ptr (X.next + 1) 5 0 0) ∧ RI B' b cb wb tb X.next (X.next + 1) (goL n s00 (z_dm code words tape)).2.1 (goL n s00 (z_dm code words tape)).1.length (goL n s00 (z_dm code words tape)).2.2 (goL n s00 (z_dm code words tape)).1 := by
  by_cases h0 : lim ≤ 0
  ·obtain rfl : n = 0 := by omega
   obtain ⟨fr', h1, h2⟩ := z_md _ b cb wb tb X.next (X.next + 1) hF _ (min lim 1048576) true [] 0 80 [] (.inr (by omega)) hG
   exact ⟨fr', _, h1, h2, hG⟩
  ·obtain ⟨fr', B', h1, h2, h3⟩ := z_t2 b cb wb tb X.next (X.next + 1) hF n (by omega) n _ s00 (z_dm code words tape) [] [] (by simp) hok hG (by simp (disch := omega) [stBlk])
   have e : (min lim 1048576) = (n : Int) := by omega
   rw [e]
   exact ⟨fr', B', h1, h2, by simpa using h3⟩
 obtain ⟨fr', B', hl, ⟨f1, f2, f3⟩, ⟨wf', fix', lc', ns', no', fst', c, fl, out, hcc⟩⟩ := key
 unfold outAV
 clear hG fix2 fix1 fix wfs
 have hwl := hK.words
 have hws : (z_dm code words tape).words.length = words.length := rfl
 rw [hws] at hwl
 generalize goL n s00 (z_dm code words tape) = R at *
 obtain ⟨ls, m', e⟩ := R
 dsimp only at *
 simp only [if_true]
 obtain ⟨s0, s1, s2, s3, s4, s5, o0, o1, o2, o3, o4, z1, z2, z3, z4⟩ := hF
 have q1 := fix'.hb; have q2 := fix'.hwb; have q3 := fix'.bw
 unfold exeL at hl
 unfold exeL0 at w1
 have es : s00.cells = [W32 0#32, W32 0#32, W32 0#32, W32 0#32, W32 0#32, W32 0#32, W32 0#32, W32 0#32, W32 0#32, .bool false, .bool false, .bool false, .bool false] := rfl
 rw [es] at hl w1
 simp only [outB] at out fst'
 have hGb : ∀ B'' : Hp, (B''.rmem b cb wb tb m').get b = some (rBlk cb wb tb m') := fun B'' => by rw [z_bx, if_pos rfl]
 have hmin : (¬ 1048576 < lim → min lim 1048576 = lim) ∧ (1048576 < lim → min lim 1048576 = 1048576) := ⟨fun h => by omega, fun h => by omega⟩
 have hnx : (B'.next : Nat) > X.next := ns'
 by_cases hW0 : words.length = 0
 ·have hwnil : m'.words = [] := List.eq_nil_of_length_eq_zero (by omega)
  have hnil : w32s [] = ([] : List (List AV)) := rfl
  have hc0 : cAV wb 0 = .nils := rfl
  simp only [rBlk, hwl, hW0, hc0] at hGb
  rw [hwnil]
  by_cases hlim : 1048576 < lim
  all_goals
   first | rw [hmin.1 hlim] at hl | rw [hmin.2 hlim] at hl
   by_cases hls : ls = []
   ·subst hls
    simp only [lAV, if_true] at out
    simp -implicitDefEqProofs +contextual (disch := try first | omega | assumption | (simp only [Hp.next_set, Hp.next_push]; omega) | (simp; done)) [z_bf.spec, z_bf, hn, w1, w2, w3, w4, w5, hl, f1, f2, f3, out, fst', hGb, hlim, hnil, z_cr, z_dg, z_c2]
   ·obtain ⟨c0, c1, c2, c3, c4, c6, c7, hcg⟩ := hcc hls
    have hc7 := wf' _ _ hcg
    simp only [lAV, hls, if_false] at out
    simp -implicitDefEqProofs +contextual (disch := try first | omega | assumption | (simp only [Hp.next_set, Hp.next_push]; omega) | (simp; done)) [z_bf.spec, z_bf, hn, w1, w2, w3, w4, w5, hl, f1, f2, f3, out, fst', hGb, hlim, hnil, hcg, z_cr, z_dg, z_c2]
    exact List.take_of_length_le (by simp)
 ·have hGw : ∀ B'' : Hp, (B''.rmem b cb wb tb m').get wb = some (z_d3 m'.words) := fun B'' => by rw [z_bx, if_neg q3, if_pos ⟨rfl, by omega⟩]
  have hc0 := z_in wb words.length (by omega)
  simp only [rBlk, hwl, hc0, z_d3] at hGb hGw
  by_cases hlim : 1048576 < lim
  all_goals
   first | rw [hmin.1 hlim] at hl | rw [hmin.2 hlim] at hl
   by_cases hls : ls = []
   ·subst hls
    simp only [lAV, if_true] at out
    simp -implicitDefEqProofs +contextual (disch := try first | omega | assumption | (simp only [Hp.next_set, Hp.next_push]; omega) | (simp; done)) [z_bf.spec, z_bf, hn, w1, w2, w3, w4, w5, hl, f1, f2, f3, out, fst', hGb, hGw, hlim, hwl, z_cr, z_dg, z_c2]
    rw [← hwl]; simp
   ·obtain ⟨c0, c1, c2, c3, c4, c6, c7, hcg⟩ := hcc hls
    have hc7 := wf' _ _ hcg
    simp only [lAV, hls, if_false] at out
    simp -implicitDefEqProofs +contextual (disch := try first | omega | assumption | (simp only [Hp.next_set, Hp.next_push]; omega) | (simp; done)) [z_bf.spec, z_bf, hn, w1, w2, w3, w4, w5, hl, f1, f2, f3, out, fst', hGb, hGw, hlim, hwl, hcg, z_cr, z_dg, z_c2]
    rw [← hwl]; simp
    exact List.take_of_length_le (by simp)
end Go.Abs
end
section
namespace Go.Abs
open Th
def sameM (a b : LeakM) : Bool := decide (a.pc = b.pc) && decide (a.code = b.code) && decide (a.addr = b.addr) && decide (a.memory = b.memory) && decide (a.random = b.random)
theorem z_r6 (a b : LeakM) : z_cg.spec [.agg a.cells, .agg b.cells] = some (.bool (sameM a b)) := by
 obtain ⟨pc, code, a1, b1, r, old, bus, addr, m, q⟩ := a
 obtain ⟨pc', code', a', b', r', old', bus', addr', m', q'⟩ := b
 unfold sameM
 by_cases h1 : pc = pc' <;> by_cases h2 : code = code' <;> by_cases h3 : addr = addr' <;> cases m <;> cases m' <;> cases q <;> cases q'
 all_goals simp -implicitDefEqProofs +contextual (disch := omega) [z_cg.spec, z_cg, LeakM.cells, h1, h2, h3]
end Go.Abs
end
section
namespace Go.Abs
def numK : Nat → Nat → List UInt8
 | 0, _ => []
 | k + 1, n => if n < 10 then [48 + UInt8.ofNat n] else numK k (n / 10) ++ [48 + UInt8.ofNat (n % 10)]
def num (n : Nat) : List UInt8 := numK 19 n
theorem z_l0 : ∀ k n, (numK k n).length ≤ k
 | 0, _ => by simp [numK]
 | k + 1, n => by
  have := z_l0 k (n / 10)
  unfold numK
  split
  ·simp
  ·simp; omega
theorem z_ly (n : Nat) : (num n).length ≤ 19 := z_l0 19 n
theorem z_lz (k n : Nat) (h : n < 10) : numK (k + 1) n = [48 + UInt8.ofNat n] := by unfold numK; rw [if_pos h]
theorem z_t6 (n : Nat) (h : n < 10) : (([48, 49, 50, 51, 52, 53, 54, 55, 56, 57] : List UInt8).take (n + 1)).drop n = [48 + UInt8.ofNat n] := by
 have : n = 0 ∨ n = 1 ∨ n = 2 ∨ n = 3 ∨ n = 4 ∨ n = 5 ∨ n = 6 ∨ n = 7 ∨ n = 8 ∨ n = 9 := by omega
 rcases this with rfl | rfl | rfl | rfl | rfl | rfl | rfl | rfl | rfl | rfl <;> rfl
theorem z_u3 (s : SpecP) (n : Nat) (h : n < 10) : z_cj.step s [.int .i64 n] = some (.str (bs [48 + UInt8.ofNat n])) := by
 have h1 : (n : Int) < 10 := by omega
 have h2 : ¬ (n : Int) < 0 := by omega
 have hc := z_t6 n h
 have h3 : ((n : Int) + 1).toNat = n + 1 := by omega
 rw [List.take_succ_cons] at hc
 simp -implicitDefEqProofs +contextual (disch := omega) [z_cj.step, h1, h2, hc, h3]
theorem z_mn : ∀ (k j n : Nat), k ≤ 18 → n < 10 ^ (k + 1) → n < 1000000000000000000 → z_cj.fuel (k + 1 + j) [.int .i64 n] = some (.str (bs (numK (k + 1) n)))
 | 0, j, n, _, h, hb => by
  have h' : n < 10 := by simpa using h
  rw [show 0 + 1 + j = j + 1 from by omega, z_lz 0 n h']
  exact z_u3 _ n h'
 | k + 1, j, n, hk18, h, hb => by
  by_cases h' : n < 10
  ·rw [show k + 1 + 1 + j = (k + 1 + j) + 1 from by omega, z_lz (k + 1) n h']
   exact z_u3 _ n h'
  ·have e1 := z_mn k j (n / 10) (by omega) (by rw [Nat.pow_succ] at h; omega) (by omega)
   have e2 := z_mn 0 (k + j) (n % 10) (by omega) (by omega) (by omega)
   rw [show 0 + 1 + (k + j) = k + 1 + j from by omega, z_lz 0 _ (by omega)] at e2
   have hl := z_l0 (k + 1) (n / 10)
   have hk : (numK (k + 1) (n / 10)).length ≤ 19 := by omega
   rw [show k + 1 + 1 + j = (k + 1 + j) + 1 from by omega]
   show z_cj.step (z_cj.fuel (k + 1 + j)) [.int .i64 n] = _
   have h1 : ¬ (n : Int) < 10 := by omega
   have h2 : ¬ (n : Int) < 0 := by omega
   have hd : ((n / 10 : Nat) : Int) = (n : Int) / 10 := by omega
   have hm : ((n % 10 : Nat) : Int) = (n : Int) % 10 := by omega
   rw [hd] at e1
   rw [hm] at e2
   rw [show numK (k + 1 + 1) n = numK (k + 1) (n / 10) ++ [48 + UInt8.ofNat (n % 10)] from by rw [numK, if_neg h']]
   generalize numK (k + 1) (n / 10) = l at *
   generalize z_cj.fuel (k + 1 + j) = s at *
   simp -implicitDefEqProofs +contextual (disch := omega) [z_cj.step, h1, h2, e1, e2]
theorem z_x5 (n : Nat) (h : n < 1000000000000000000) : z_cj.spec [.int .i64 n] = some (.str (bs (num n))) :=
 z_mn 18 45 n (by omega) (by omega) h
end Go.Abs
end
section
section
namespace Go.Abs
structure OpM where
 k : Int
 a : Int
 b : Int
 n : BitVec 32
deriving DecidableEq
structure CodeM where
 inN : Int
 ops : List OpM
 outs : List Int
deriving DecidableEq
def OpM.cells (o : OpM) : List AV := [.int .i64 o.k, .int .i64 o.a, .int .i64 o.b, W32 o.n]
def z_d0 (l : List OpM) : List (List AV) := l.map OpM.cells
def CodeM.cells (c : CodeM) : List AV := [.int .i64 c.inN, .rsl 4 (z_d0 c.ops), .rsl 1 (ints c.outs)]
@[simp] theorem z_e8 (l : List OpM) : (z_d0 l).length = l.length := by simp [z_d0]
theorem z_f3 (l : List OpM) (k : Nat) (h : k < l.length) : (z_d0 l)[k]? = some l[k].cells := by simp [z_d0, h]
def z_a7 (k : Int) : Int := if k = 1 ∨ k = 2 then 2 else if 3 ≤ k ∧ k ≤ 6 ∨ k = 8 then 1 else 0
def wireM (x wires : Int) (is : Bool) : Bool := if is then decide (0 ≤ x) && decide (x < wires) else decide (x = 0)
def z_ge (o : OpM) : Bool := if o.k = 7 then true else if o.k = 4 ∨ o.k = 5 ∨ o.k = 6 then decide (o.n.toNat < 32) else decide (o.n = 0#32)
def OpM.ok (o : OpM) (wires : Int) : Bool :=
 decide (0 ≤ o.k) && decide (o.k < 9) && z_ge o && wireM o.a wires (decide (0 < z_a7 o.k)) && wireM o.b wires (decide (1 < z_a7 o.k))
def opsOk : List OpM → Int → Bool
 | [], _ => true
 | o :: l, w => o.ok w && opsOk l (w + 1)
def CodeM.can (c : CodeM) : Bool :=
 decide (0 ≤ c.inN) && decide (c.inN ≤ 4000) && decide (c.ops.length ≤ 60000) && opsOk c.ops c.inN && c.outs.all (fun x => decide (0 ≤ x) && decide (x < c.inN + c.ops.length))
def CodeM.randoms (c : CodeM) : Nat := (c.ops.filter fun o => decide (o.k = 0)).length
def rotM (a n : BitVec 32) : BitVec 32 := a.rotateLeft (n.toNat % 32)
def stepW (o : OpM) (a b : BitVec 32) : BitVec 32 :=
 if o.k = 1 then a &&& b else if o.k = 2 then a ^^^ b else if o.k = 3 then ~~~ a else if o.k = 4 then a <<< o.n.toNat else if o.k = 5 then a >>> o.n.toNat
 else if o.k = 6 then rotM a o.n else if o.k = 7 then o.n else a
def z_dr : List OpM → List (BitVec 32) → List (BitVec 32) → List (BitVec 32)
 | [], w, _ => w
 | o :: l, w, t =>
  if o.k = 0 then z_dr l (w ++ [at0 t 0]) t.tail
  else z_dr l (w ++ [stepW o (if 0 < z_a7 o.k then at0 w o.a.toNat else 0#32) (if 1 < z_a7 o.k then at0 w o.b.toNat else 0#32)]) t
theorem z_hz : ∀ (l : List OpM) (w t : List (BitVec 32)), (z_dr l w t).length = w.length + l.length
 | [], w, t => by simp [z_dr]
 | o :: l, w, t => by
  unfold z_dr
  split <;> rw [z_hz] <;> simp <;> omega
theorem z_gc : ∀ (l l' : List OpM) (w t : List (BitVec 32)), z_dr (l ++ l') w t = z_dr l' (z_dr l w t) (t.drop (l.filter fun o => decide (o.k = 0)).length)
 | [], l', w, t => by simp [z_dr]
 | o :: l, l', w, t => by
  rw [List.cons_append]
  by_cases h : o.k = 0
  ·rw [z_dr, z_dr, if_pos h, if_pos h, z_gc]
   simp [h, Nat.add_comm]
  ·rw [z_dr, z_dr, if_neg h, if_neg h, z_gc]
   simp [h]
end Go.Abs
end
section
end
section
namespace Go.Abs
def xorL (l : List (BitVec 32)) : BitVec 32 := l.foldl (· ^^^ ·) 0#32
structure AskM where
 c : CodeM
 secrets : Nat
 d : Nat
namespace AskM
variable (q : AskM)
end AskM
end Go.Abs
end
section
namespace Go.Abs
namespace AskM
variable (q : AskM)
end AskM
end Go.Abs
end
section
namespace Go.Abs
structure GadS where
 ops : List OpM
 outs : List Int
def gadIn (and : Bool) (d : Nat) : Nat := if and then 2 * (d + 1) else d + 1
def outN (s : GadS) (i : Nat) : Nat := (ati s.outs i).toNat
@[simp] theorem xorL_nil : xorL [] = 0#32 := rfl
end Go.Abs
end
section
namespace Go.Abs
structure GadOk (and : Bool) (d : Nat) (w0 t : List (BitVec 32)) (s : GadS) (E : BitVec 32) : Prop where
 len : s.outs.length = d + 1
 lt : ∀ k, k < d + 1 → 0 ≤ ati s.outs k ∧ outN s k < gadIn and d + s.ops.length
 sum : xorL ((List.range (d + 1)).map fun k => at0 (z_dr s.ops w0 t) (outN s k)) = E
end Go.Abs
end
section
end
end
section
section
namespace Go.Abs
theorem z_vg (k : Int) : z_bb.spec [.int .i64 k] = some (.int .i64 (z_a7 k)) := by
 by_cases h1 : k = 1
 ·subst h1; simp -implicitDefEqProofs +contextual (disch := omega) [z_bb.spec, z_bb, z_a7]
 by_cases h2 : k = 2
 ·subst h2; simp -implicitDefEqProofs +contextual (disch := omega) [z_bb.spec, z_bb, z_a7]
 by_cases h3 : k = 3
 ·subst h3; simp -implicitDefEqProofs +contextual (disch := omega) [z_bb.spec, z_bb, z_a7]
 by_cases h4 : k = 4
 ·subst h4; simp -implicitDefEqProofs +contextual (disch := omega) [z_bb.spec, z_bb, z_a7]
 by_cases h5 : k = 5
 ·subst h5; simp -implicitDefEqProofs +contextual (disch := omega) [z_bb.spec, z_bb, z_a7]
 by_cases h6 : k = 6
 ·subst h6; simp -implicitDefEqProofs +contextual (disch := omega) [z_bb.spec, z_bb, z_a7]
 by_cases h8 : k = 8
 ·subst h8; simp -implicitDefEqProofs +contextual (disch := omega) [z_bb.spec, z_bb, z_a7]
 have e : z_a7 k = 0 := by
  unfold z_a7
  rw [if_neg (by omega), if_neg (by omega)]
 rw [e]
 simp -implicitDefEqProofs +contextual (disch := omega) [z_bb.spec, z_bb, h1, h2, h3, h4, h5, h6, h8]
theorem z_tj (o : OpM) : z_bd.spec [.agg o.cells] = some (.bool (z_ge o)) := by
 obtain ⟨k, a, b, n⟩ := o
 unfold OpM.cells z_ge
 dsimp only
 by_cases h7 : k = 7
 ·subst h7; simp -implicitDefEqProofs +contextual (disch := omega) [z_bd.spec, z_bd]
 by_cases h4 : k = 4
 ·subst h4; simp -implicitDefEqProofs +contextual (disch := omega) [z_bd.spec, z_bd, BitVec.lt_def]
 by_cases h5 : k = 5
 ·subst h5; simp -implicitDefEqProofs +contextual (disch := omega) [z_bd.spec, z_bd, BitVec.lt_def]
 by_cases h6 : k = 6
 ·subst h6; simp -implicitDefEqProofs +contextual (disch := omega) [z_bd.spec, z_bd, BitVec.lt_def]
 simp -implicitDefEqProofs +contextual (disch := omega) [z_bd.spec, z_bd, h4, h5, h6, h7]
 rfl
theorem z_lp (x w : Int) (b : Bool) : z_cl.spec [.int .i64 x, .int .i64 w, .bool b] = some (.bool (wireM x w b)) := by
 unfold wireM
 cases b with
 | true =>
  by_cases h : 0 ≤ x
  ·simp -implicitDefEqProofs +contextual (disch := omega) [z_cl.spec, z_cl, h]
  ·simp -implicitDefEqProofs +contextual (disch := omega) [z_cl.spec, z_cl, h]
 | false =>
  simp -implicitDefEqProofs +contextual (disch := omega) [z_cl.spec, z_cl]
  rfl
def z_b9 (c : CodeM) : Blk := ⟨T.ty_api_Code, 3, true, [c.cells]⟩
theorem z_ld (o : OpM) (l : List OpM) (w : Int) : opsOk (o :: l) w = (o.ok w && opsOk l (w + 1)) := rfl
def canFr (c : CodeM) (k : Nat) (x : List (Nat × AV)) : AFr := AFr.al ([(1, .ptr 0 3 0 0), (23, .rsl 4 (z_d0 c.ops)), (24, .int .i64 c.ops.length), (25, .int .i64 k)] ++ x)
theorem z_wu (c : CodeM) (hl : c.ops.length ≤ 60000) (hin : 0 ≤ c.inN ∧ c.inN ≤ 4000) : ∀ (d k : Nat) (X : Hp) (x : List (Nat × AV)), k + d = c.ops.length → X.WF → X.get 0 = some (z_b9 c) →
  ∃ fr' X', aloop (z_b2.l0 z_bb.spec z_bd.spec z_cl.spec) (canFr c k x) X = some (if opsOk (c.ops.drop k) (c.inN + k) = true then .exit 0 else .ret, fr', X') ∧
   (opsOk (c.ops.drop k) (c.inN + k) = true → fr' 1 = .ptr 0 3 0 0) ∧ (opsOk (c.ops.drop k) (c.inN + k) = false → fr' 2 = .bool false) ∧ X'.WF ∧ X'.get 0 = some (z_b9 c) := by
 intro d
 induction d with
 | zero =>
  intro k X x h hw hg
  obtain rfl : k = c.ops.length := by omega
  rw [List.drop_length]
  refine ⟨_, _, z_bz (by simp [opsOk]) (by simp -implicitDefEqProofs +contextual (disch := omega) [z_b2.l0, canFr, opsOk]; exact rfl), ?_, ?_, hw, hg⟩
  ·intro _; simp
  ·intro q; simp [opsOk] at q
 | succ d ih =>
  intro k X x h hw hg
  have hk : k < c.ops.length := by omega
  have hk' : (k : Int) < c.ops.length := by omega
  have hk1 : ((k + 1 : Nat) : Int) = (k : Int) + 1 := by omega
  have hrow := z_f3 c.ops k hk
  have hdr : c.ops.drop k = c.ops[k] :: c.ops.drop (k + 1) := List.drop_eq_getElem_cons hk
  have hne := hw _ _ hg
  rw [hdr, z_ld]
  have hT := z_vg c.ops[k].k
  have hN := z_tj c.ops[k]
  have hW := z_lp
  generalize c.ops[k] = o at *
  obtain ⟨ok, oa, ob, on⟩ := o
  simp only [OpM.cells] at hN hrow hT
  have hWa := z_lp oa (c.inN + k) (decide (0 < z_a7 ok))
  have hWb := z_lp ob (c.inN + k) (decide (1 < z_a7 ok))
  have hok : OpM.ok ⟨ok, oa, ob, on⟩ (c.inN + k) = (decide (0 ≤ ok) && decide (ok < 9) && z_ge ⟨ok, oa, ob, on⟩ && wireM oa (c.inN + k) (decide (0 < z_a7 ok)) && wireM ob (c.inN + k) (decide (1 < z_a7 ok))) := rfl
  rw [hok]
  generalize z_ge ⟨ok, oa, ob, on⟩ = nb at *
  generalize wireM oa (c.inN + k) (decide (0 < z_a7 ok)) = wa at *
  generalize wireM ob (c.inN + k) (decide (1 < z_a7 ok)) = wb at *
  have hcb : z_b9 c = ⟨T.ty_api_Code, 3, true, [[.int .i64 c.inN, .rsl 4 (z_d0 c.ops), .rsl 1 (ints c.outs)]]⟩ := rfl
  have e0 : c.inN + (k : Int) + 1 = c.inN + ((k + 1 : Nat) : Int) := by omega
  by_cases g1 : 0 ≤ ok
  ·have g1' : ¬ ok < 0 := by omega
   by_cases g2 : ok < 9
   ·have g2' : ¬ 9 ≤ ok := by omega
    cases nb with
    | true =>
     cases wa with
     | true =>
      cases wb with
      | true =>
       have st : ∃ X1 y, z_b2.l0 z_bb.spec z_bd.spec z_cl.spec (canFr c k x) X = some (.normal, canFr c (k + 1) y, X1) ∧ X1.WF ∧ X1.get 0 = some (z_b9 c) := by
        refine ⟨?_, ?_, ?_, ?_, ?_⟩
        rotate_left; rotate_left
        ·simp -implicitDefEqProofs +contextual (disch := try first | omega | assumption) [z_b2.l0, canFr, hg, hcb, hrow, hk', hk1, hT, hN, hWa, hWb, g1', g2']
         constructor <;> rfl
        ·(repeat' (first | assumption | with_reducible apply Hp.WF.push | with_reducible apply Hp.WF.set)) <;> (simp <;> omega)
        ·simp (disch := omega) [hg]
       obtain ⟨X1, y, s1, s2, s3⟩ := st
       obtain ⟨fr', X', p1, p2, p3, p4, p5⟩ := ih (k + 1) X1 y (by omega) s2 s3
       simp only [decide_eq_true g1, decide_eq_true g2, Bool.true_and, e0]
       exact ⟨fr', X', (z_dl s1).trans p1, p2, p3, p4, p5⟩
      | false =>
       have st : ∃ fr1 X1, z_b2.l0 z_bb.spec z_bd.spec z_cl.spec (canFr c k x) X = some (.ret, fr1, X1) ∧ fr1 2 = .bool false ∧ X1.WF ∧ X1.get 0 = some (z_b9 c) := by
        refine ⟨?_, ?_, ?_, ?_, ?_, ?_⟩
        rotate_left; rotate_left
        ·simp -implicitDefEqProofs +contextual (disch := try first | omega | assumption) [z_b2.l0, canFr, hg, hcb, hrow, hk', hk1, hT, hN, hWa, hWb, g1', g2', g1, g2]
         constructor <;> rfl
        ·simp
        ·(repeat' (first | assumption | with_reducible apply Hp.WF.push | with_reducible apply Hp.WF.set)) <;> (simp <;> omega)
        ·simp (disch := omega) [hg]
       obtain ⟨fr1, X1, s1, s2, s3, s4⟩ := st
       exact ⟨fr1, X1, by rw [z_bz (by simp) s1]; simp [g1', g2', g1, g2], by simp [g1', g2', g1, g2], fun _ => s2, s3, s4⟩
     | false =>
      have st : ∃ fr1 X1, z_b2.l0 z_bb.spec z_bd.spec z_cl.spec (canFr c k x) X = some (.ret, fr1, X1) ∧ fr1 2 = .bool false ∧ X1.WF ∧ X1.get 0 = some (z_b9 c) := by
       refine ⟨?_, ?_, ?_, ?_, ?_, ?_⟩
       rotate_left; rotate_left
       ·simp -implicitDefEqProofs +contextual (disch := try first | omega | assumption) [z_b2.l0, canFr, hg, hcb, hrow, hk', hk1, hT, hN, hWa, hWb, g1', g2', g1, g2]
        constructor <;> rfl
       ·simp
       ·(repeat' (first | assumption | with_reducible apply Hp.WF.push | with_reducible apply Hp.WF.set)) <;> (simp <;> omega)
       ·simp (disch := omega) [hg]
      obtain ⟨fr1, X1, s1, s2, s3, s4⟩ := st
      exact ⟨fr1, X1, by rw [z_bz (by simp) s1]; simp [g1', g2', g1, g2], by simp [g1', g2', g1, g2], fun _ => s2, s3, s4⟩
    | false =>
     have st : ∃ fr1 X1, z_b2.l0 z_bb.spec z_bd.spec z_cl.spec (canFr c k x) X = some (.ret, fr1, X1) ∧ fr1 2 = .bool false ∧ X1.WF ∧ X1.get 0 = some (z_b9 c) := by
      refine ⟨?_, ?_, ?_, ?_, ?_, ?_⟩
      rotate_left; rotate_left
      ·simp -implicitDefEqProofs +contextual (disch := try first | omega | assumption) [z_b2.l0, canFr, hg, hcb, hrow, hk', hk1, hT, hN, hWa, hWb, g1', g2', g1, g2]
       constructor <;> rfl
      ·simp
      ·(repeat' (first | assumption | with_reducible apply Hp.WF.push | with_reducible apply Hp.WF.set)) <;> (simp <;> omega)
      ·simp (disch := omega) [hg]
     obtain ⟨fr1, X1, s1, s2, s3, s4⟩ := st
     exact ⟨fr1, X1, by rw [z_bz (by simp) s1]; simp [g1', g2', g1, g2], by simp [g1', g2', g1, g2], fun _ => s2, s3, s4⟩
   ·have g2' : 9 ≤ ok := by omega
    have st : ∃ fr1 X1, z_b2.l0 z_bb.spec z_bd.spec z_cl.spec (canFr c k x) X = some (.ret, fr1, X1) ∧ fr1 2 = .bool false ∧ X1.WF ∧ X1.get 0 = some (z_b9 c) := by
     refine ⟨?_, ?_, ?_, ?_, ?_, ?_⟩
     rotate_left; rotate_left
     ·simp -implicitDefEqProofs +contextual (disch := try first | omega | assumption) [z_b2.l0, canFr, hg, hcb, hrow, hk', hk1, hT, hN, hWa, hWb, g1', g2', g1, g2]
      constructor <;> rfl
     ·simp
     ·(repeat' (first | assumption | with_reducible apply Hp.WF.push | with_reducible apply Hp.WF.set)) <;> (simp <;> omega)
     ·simp (disch := omega) [hg]
    obtain ⟨fr1, X1, s1, s2, s3, s4⟩ := st
    exact ⟨fr1, X1, by rw [z_bz (by simp) s1]; simp [g1', g2', g1, g2], by simp [g1', g2', g1, g2], fun _ => s2, s3, s4⟩
  ·have g1' : ok < 0 := by omega
   have st : ∃ fr1 X1, z_b2.l0 z_bb.spec z_bd.spec z_cl.spec (canFr c k x) X = some (.ret, fr1, X1) ∧ fr1 2 = .bool false ∧ X1.WF ∧ X1.get 0 = some (z_b9 c) := by
    refine ⟨?_, ?_, ?_, ?_, ?_, ?_⟩
    rotate_left; rotate_left
    ·simp -implicitDefEqProofs +contextual (disch := try first | omega | assumption) [z_b2.l0, canFr, hg, hcb, hrow, hk', hk1, hT, hN, hWa, hWb, g1', g1]
     constructor <;> rfl
    ·simp
    ·(repeat' (first | assumption | with_reducible apply Hp.WF.push | with_reducible apply Hp.WF.set)) <;> (simp <;> omega)
    ·simp (disch := omega) [hg]
   obtain ⟨fr1, X1, s1, s2, s3, s4⟩ := st
   exact ⟨fr1, X1, by rw [z_bz (by simp) s1]; simp [g1', g1], by simp [g1', g1], fun _ => s2, s3, s4⟩
theorem z_tr (l : List Int) (k : Nat) (h : k < l.length) : (ints l)[k]? = some [.int .i64 l[k]] := by simp [ints, h]
theorem z_th (c : CodeM) (hl : c.ops.length ≤ 60000) (hin : 0 ≤ c.inN ∧ c.inN ≤ 4000) (hb : c.outs.length ≤ 1000000000) (X : Hp) (hg : X.get 0 = some (z_b9 c)) : ∀ (d k : Nat) (x : List (Nat × AV)), k + d = c.outs.length →
  ∃ fr', aloop (z_b2.l1 z_bb.spec z_bd.spec z_cl.spec) (AFr.al ([(1, .ptr 0 3 0 0), (72, .rsl 1 (ints c.outs)), (73, .int .i64 c.outs.length), (74, .int .i64 k)] ++ x)) X =
    some (if (c.outs.drop k).all (fun x => decide (0 ≤ x) && decide (x < c.inN + c.ops.length)) = true then .exit 2 else .ret, fr', X) ∧
   ((c.outs.drop k).all (fun x => decide (0 ≤ x) && decide (x < c.inN + c.ops.length)) = false → fr' 2 = .bool false) := by
 intro d
 induction d with
 | zero =>
  intro k x h
  obtain rfl : k = c.outs.length := by omega
  rw [List.drop_length]
  refine ⟨_, z_bz (by simp) (by simp -implicitDefEqProofs +contextual (disch := omega) [z_b2.l1]; exact rfl), ?_⟩
  intro q; simp at q
 | succ d ih =>
  intro k x h
  have hk : k < c.outs.length := by omega
  have hk' : (k : Int) < c.outs.length := by omega
  have hk1 : ((k + 1 : Nat) : Int) = (k : Int) + 1 := by omega
  have hrow := z_tr c.outs k hk
  have hdr : c.outs.drop k = c.outs[k] :: c.outs.drop (k + 1) := List.drop_eq_getElem_cons hk
  rw [hdr, List.all_cons]
  generalize c.outs[k] = o at *
  have hW := z_lp o (c.inN + c.ops.length) true
  have hwo : wireM o (c.inN + c.ops.length) true = (decide (0 ≤ o) && decide (o < c.inN + c.ops.length)) := by simp [wireM]
  rw [← hwo]
  have hcb : z_b9 c = ⟨T.ty_api_Code, 3, true, [[.int .i64 c.inN, .rsl 4 (z_d0 c.ops), .rsl 1 (ints c.outs)]]⟩ := rfl
  cases hv : wireM o (c.inN + c.ops.length) true with
  | true =>
   rw [hv] at hW
   have st : ∃ y, z_b2.l1 z_bb.spec z_bd.spec z_cl.spec (AFr.al ([(1, .ptr 0 3 0 0), (72, .rsl 1 (ints c.outs)), (73, .int .i64 c.outs.length), (74, .int .i64 k)] ++ x)) X =
     some (.normal, AFr.al ([(1, .ptr 0 3 0 0), (72, .rsl 1 (ints c.outs)), (73, .int .i64 c.outs.length), (74, .int .i64 (k + 1 : Nat))] ++ y), X) := by
    refine ⟨?_, ?_⟩
    rotate_left
    ·simp -implicitDefEqProofs +contextual (disch := try first | omega | assumption) [z_b2.l1, hg, hcb, hrow, hk', hk1, hW]
     rfl
   obtain ⟨y, s1⟩ := st
   obtain ⟨fr', p1, p2⟩ := ih (k + 1) y (by omega)
   simp only [Bool.true_and]
   exact ⟨fr', (z_dl s1).trans p1, p2⟩
  | false =>
   rw [hv] at hW
   have st : ∃ fr1, z_b2.l1 z_bb.spec z_bd.spec z_cl.spec (AFr.al ([(1, .ptr 0 3 0 0), (72, .rsl 1 (ints c.outs)), (73, .int .i64 c.outs.length), (74, .int .i64 k)] ++ x)) X = some (.ret, fr1, X) ∧ fr1 2 = .bool false := by
    refine ⟨?_, ?_, ?_⟩
    rotate_left
    ·simp -implicitDefEqProofs +contextual (disch := try first | omega | assumption) [z_b2.l1, hg, hcb, hrow, hk', hk1, hW]
     rfl
    ·simp
   obtain ⟨fr1, s1, s2⟩ := st
   exact ⟨fr1, by rw [z_bz (by simp) s1]; simp, fun _ => s2⟩
theorem can_of (c : CodeM) (hl : c.ops.length ≤ 60000) (hin : 0 ≤ c.inN ∧ c.inN ≤ 4000) {X : Hp} {r} (hr : aloop (z_b2.l0 z_bb.spec z_bd.spec z_cl.spec) (AFr.al [(1, .ptr 0 3 0 0), (23, .rsl 4 (z_d0 c.ops)), (24, .int .i64 c.ops.length), (25, .int .i64 0)]) X = r) (hw : X.WF) (hg : X.get 0 = some (z_b9 c)) :
  ∃ fr' X', r = some (if opsOk c.ops c.inN = true then .exit 0 else .ret, fr', X') ∧ (opsOk c.ops c.inN = true → fr' 1 = .ptr 0 3 0 0) ∧ (opsOk c.ops c.inN = false → fr' 2 = .bool false) ∧ X'.WF ∧ X'.get 0 = some (z_b9 c) := by
 obtain ⟨fr', X', p1, p2⟩ := z_wu c hl hin c.ops.length 0 X [] (by omega) hw hg
 simp only [List.drop_zero, Int.natCast_zero, Int.add_zero] at p1 p2
 exact ⟨fr', X', hr.symm.trans p1, p2⟩
theorem z_yz (c : CodeM) (hl : c.ops.length ≤ 60000) (hin : 0 ≤ c.inN ∧ c.inN ≤ 4000) (hb : c.outs.length ≤ 1000000000) {X : Hp} {r} (hr : aloop (z_b2.l1 z_bb.spec z_bd.spec z_cl.spec) (AFr.al [(1, .ptr 0 3 0 0), (72, .rsl 1 (ints c.outs)), (73, .int .i64 c.outs.length), (74, .int .i64 0)]) X = r) (hg : X.get 0 = some (z_b9 c)) :
  ∃ fr', r = some (if c.outs.all (fun x => decide (0 ≤ x) && decide (x < c.inN + c.ops.length)) = true then .exit 2 else .ret, fr', X) ∧ (c.outs.all (fun x => decide (0 ≤ x) && decide (x < c.inN + c.ops.length)) = false → fr' 2 = .bool false) := by
 obtain ⟨fr', p1, p2⟩ := z_th c hl hin hb X hg c.outs.length 0 [] (by omega)
 simp only [List.drop_zero] at p1 p2
 exact ⟨fr', hr.symm.trans p1, p2⟩
theorem z_zb (c : CodeM) (hb : c.outs.length ≤ 1000000000) (hb2 : c.ops.length ≤ 1000000000) : z_b2.spec [.agg c.cells] = some (.bool c.can) := by
 have hcb : z_b9 c = ⟨T.ty_api_Code, 3, true, [[.int .i64 c.inN, .rsl 4 (z_d0 c.ops), .rsl 1 (ints c.outs)]]⟩ := rfl
 unfold CodeM.cells CodeM.can
 by_cases h1 : 0 ≤ c.inN
 ·have h1' : ¬ c.inN < 0 := by omega
  by_cases h2 : c.inN ≤ 4000
  ·have h2' : ¬ 4000 < c.inN := by omega
   by_cases h3 : c.ops.length ≤ 60000
   ·have h3' : ¬ (60000 : Int) < c.ops.length := by omega
    simp -implicitDefEqProofs +contextual (disch := omega) [z_b2.spec, z_b2, h1', h2', h3']
    generalize hr : aloop _ _ _ = r
    obtain ⟨fr', X', rfl, p2, p3, p4, p5⟩ := can_of c h3 ⟨h1, h2⟩ hr (by (repeat' (first | assumption | with_reducible apply Hp.WF.push | with_reducible apply Hp.WF.set | exact Hp.WF.empty)) <;> (simp <;> omega)) (by simp [hcb])
    cases hv : opsOk c.ops c.inN with
    | true =>
     have p2 := p2 hv
     rw [hcb] at p5
     simp -implicitDefEqProofs +contextual (disch := omega) [p2, p5]
     generalize hr2 : aloop _ _ _ = r2
     obtain ⟨fr2, rfl, q2⟩ := z_yz c h3 ⟨h1, h2⟩ hb hr2 (by rw [hcb]; exact p5)
     cases hv2 : c.outs.all (fun x => decide (0 ≤ x) && decide (x < c.inN + c.ops.length)) with
     | true => simp -implicitDefEqProofs +contextual (disch := omega) [h1, h2, h3]
     | false => simp -implicitDefEqProofs +contextual (disch := omega) [h1, h2, h3, q2 hv2]
    | false => simp -implicitDefEqProofs +contextual (disch := omega) [h1, h2, h3, p3 hv]
   ·have h3' : (60000 : Int) < c.ops.length := by omega
    simp -implicitDefEqProofs +contextual (disch := omega) [z_b2.spec, z_b2, h1', h2', h3', h3]
  ·have h2' : 4000 < c.inN := by omega
   simp -implicitDefEqProofs +contextual (disch := omega) [z_b2.spec, z_b2, h1', h2', h2]
 ·have h1' : c.inN < 0 := by omega
  simp -implicitDefEqProofs +contextual (disch := omega) [z_b2.spec, z_b2, h1', h1]
end Go.Abs
end
section
namespace Go.Abs
def rndL (l : List OpM) : Nat := (l.filter fun o => decide (o.k = 0)).length
theorem z_sz (l : List OpM) : rndL l ≤ l.length := List.length_filter_le _ _
theorem Can_eq' (c : CodeM) (hb : c.outs.length ≤ 1000000000) (hb2 : c.ops.length ≤ 1000000000) : z_d9.spec [.agg c.cells] = some (.bool c.can) := by
 have h := z_zb c hb hb2
 unfold CodeM.cells at h ⊢
 simp -implicitDefEqProofs +contextual (disch := omega) [z_d9.spec, z_d9, h]
end Go.Abs
end
section
end
section
namespace Go.Abs
theorem z_oz (o : OpM) (l : List OpM) (w t : List (BitVec 32)) : z_dr (o :: l) w t =
  z_dr l (w ++ [if o.k = 0 then at0 t 0 else stepW o (if 0 < z_a7 o.k then at0 w o.a.toNat else 0#32) (if 1 < z_a7 o.k then at0 w o.b.toNat else 0#32)]) (if o.k = 0 then t.tail else t) := by
 by_cases h : o.k = 0
 ·rw [z_dr, if_pos h, if_pos h, if_pos h]
 ·rw [z_dr, if_neg h, if_neg h, if_neg h]
end Go.Abs
end
section
end
section
end
end
section
section
namespace Go.Abs
open Th
def z_ef (i : InsM) : List AV := [.int .i64 i.op, .int .i64 i.d, .int .i64 i.n, .int .i64 i.m, .int .i64 i.imm]
def z_a1 (l : List InsM) : List (List AV) := l.map z_ef
@[simp] theorem z_fx (l : List InsM) : (z_a1 l).length = l.length := by simp [z_a1]
theorem z_kp (a b : List InsM) : z_a1 a ++ z_a1 b = z_a1 (a ++ b) := by simp [z_a1]
theorem z_j6 (l : List InsM) (k : Nat) (h : k < l.length) : (z_a1 l)[k]? = some (z_ef l[k]) := by simp [z_a1, h]
theorem z_dx (l : List InsM) : (z_a1 l).take l.length = z_a1 l := List.take_of_length_le (by simp)
def mvI (d n : Int) : InsM := ⟨0, d, 0, 0, n⟩
def lfI (d n : Int) : InsM := ⟨4, d, 0, d, n⟩
def adI (d n : Int) : InsM := ⟨2, d, 0, 0, n⟩
def alI (op d m : Int) : InsM := ⟨11, d, 0, m, op⟩
theorem z_hc (d n : Int) : z_cp.spec [.int .i64 d, .int .i64 n] = some (.agg [.int .i64 0, .int .i64 d, .int .i64 0, .int .i64 0, .int .i64 n]) := by simp -implicitDefEqProofs +contextual (disch := omega) [z_cp.spec, z_cp]
theorem z_ik (d n : Int) : z_cm.spec [.int .i64 d, .int .i64 n] = some (.agg [.int .i64 4, .int .i64 d, .int .i64 0, .int .i64 d, .int .i64 n]) := by simp -implicitDefEqProofs +contextual (disch := omega) [z_cm.spec, z_cm]
theorem z_t4 (d n : Int) : z_dp.spec [.int .i64 d, .int .i64 n] = some (.agg [.int .i64 2, .int .i64 d, .int .i64 0, .int .i64 0, .int .i64 n]) := by simp -implicitDefEqProofs +contextual (disch := omega) [z_dp.spec, z_dp]
theorem z_me (op d m : Int) : z_ec.spec [.int .i64 op, .int .i64 d, .int .i64 m] = some (.agg [.int .i64 11, .int .i64 d, .int .i64 0, .int .i64 m, .int .i64 op]) := by simp -implicitDefEqProofs +contextual (disch := omega) [z_ec.spec, z_ec]
def atI (n : Nat) : List InsM := if 4 * n < 256 then [mvI 6 (4 * n : Nat)] else [mvI 6 (4 * n / 256 : Nat), lfI 6 8, adI 6 (4 * n % 256 : Nat)]
theorem z_mg (n : Nat) : 1 ≤ (atI n).length ∧ (atI n).length ≤ 3 := by unfold atI; split <;> simp
theorem z_n4 (n : Nat) (h : n ≤ 16000) (H : Hp) : z_ci.spec [.int .i64 n] H = some (.sl H.next 5 0 (atI n).length, H.push ⟨T.ty_api_Ins, 5, true, z_a1 (atI n)⟩) := by
 unfold atI
 have h4 : (n : Int) * 4 = ((4 * n : Nat) : Int) := by omega
 generalize hm : 4 * n = m at *
 by_cases hs : m < 256
 ·rw [if_pos hs]
  have hs' : (m : Int) < 256 := by omega
  simp -implicitDefEqProofs +contextual (disch := omega) [z_ci.spec, z_ci, h4, hs', z_hc, z_a1, z_ef, mvI]
 ·rw [if_neg hs]
  have hs' : ¬ (m : Int) < 256 := by omega
  have hd : ((m / 256 : Nat) : Int) = (m : Int) / 256 := by omega
  have hr : ((m % 256 : Nat) : Int) = (m : Int) % 256 := by omega
  simp -implicitDefEqProofs +contextual (disch := omega) [z_ci.spec, z_ci, h4, hs', z_hc, z_ik, z_t4, z_a1, z_ef, mvI, lfI, adI, hd, hr]
def getI (r : Int) (n : Nat) : List InsM := atI n ++ [⟨14, r, 7, 6, 0⟩]
def putI (n : Nat) : List InsM := atI n ++ [⟨15, 0, 7, 6, 0⟩]
theorem z_tv (r : Int) (n : Nat) (h : n ≤ 16000) : z_eb.spec [.int .i64 r, .int .i64 n] = some (.rsl 5 (z_a1 (getI r n))) := by
 have hA := z_n4 n h
 obtain ⟨l1, l3⟩ := z_mg n
 have ht : (z_a1 (atI n) ++ [[AV.int .i64 14, .int .i64 r, .int .i64 7, .int .i64 6, .int .i64 0]]).take ((atI n).length + 1) = z_a1 (atI n) ++ [[AV.int .i64 14, .int .i64 r, .int .i64 7, .int .i64 6, .int .i64 0]] := List.take_of_length_le (by simp)
 have he : z_a1 (getI r n) = z_a1 (atI n) ++ [[AV.int .i64 14, .int .i64 r, .int .i64 7, .int .i64 6, .int .i64 0]] := by simp [getI, z_a1, z_ef]
 rw [he]
 generalize atI n = l at *
 simp -implicitDefEqProofs +contextual (disch := omega) [z_eb.spec, z_eb, hA, ht]
theorem z_zr (n : Nat) (h : n ≤ 16000) : z_ea.spec [.int .i64 n] = some (.rsl 5 (z_a1 (putI n))) := by
 have hA := z_n4 n h
 obtain ⟨l1, l3⟩ := z_mg n
 have ht : (z_a1 (atI n) ++ [[AV.int .i64 15, .int .i64 0, .int .i64 7, .int .i64 6, .int .i64 0]]).take ((atI n).length + 1) = z_a1 (atI n) ++ [[AV.int .i64 15, .int .i64 0, .int .i64 7, .int .i64 6, .int .i64 0]] := List.take_of_length_le (by simp)
 have he : z_a1 (putI n) = z_a1 (atI n) ++ [[AV.int .i64 15, .int .i64 0, .int .i64 7, .int .i64 6, .int .i64 0]] := by simp [putI, z_a1, z_ef]
 rw [he]
 generalize atI n = l at *
 simp -implicitDefEqProofs +contextual (disch := omega) [z_ea.spec, z_ea, hA, ht]
def z_ic : List InsM := [mvI 7 32, lfI 7 24, mvI 5 64, lfI 5 24]
theorem z_wy : z_da.spec [] = some (.rsl 5 (z_a1 z_ic)) := by
 simp -implicitDefEqProofs +contextual (disch := omega) [z_da.spec, z_da, z_hc, z_ik, z_ic, z_a1, z_ef, mvI, lfI]
theorem z_ot (n : Int) : z_cq.spec [.int .i64 n] = some (.bool (decide (0 ≤ n) && decide (n ≤ 16000))) := by
 by_cases h : 0 ≤ n
 ·by_cases h2 : n ≤ 16000 <;> simp -implicitDefEqProofs +contextual (disch := omega) [z_cq.spec, z_cq, h, h2]
 ·simp -implicitDefEqProofs +contextual (disch := omega) [z_cq.spec, z_cq, h]
end Go.Abs
end
section
namespace Go.Abs
open Th
def byteI (v : BitVec 32) (j : Nat) : Nat := ((v >>> (24 - 8 * j)) &&& 255#32).toNat
def z_do (v : BitVec 32) : Nat → List InsM
 | 0 => []
 | j + 1 => if z_do v j ≠ [] then z_do v j ++ [lfI 0 8, adI 0 (byteI v j)] else if 0 < byteI v j ∨ j = 3 then [mvI 0 (byteI v j)] else []
def z_kb (v : BitVec 32) : List InsM := z_do v 4
theorem z_gk (v : BitVec 32) : ∀ j, (z_do v j).length ≤ 2 * j
 | 0 => by simp [z_do]
 | j + 1 => by
  have := z_gk v j
  unfold z_do
  repeat' split
  all_goals simp; try omega
def InsUp (H : Hp) (v : AV) (l : List InsM) : Prop := (l = [] ∧ v = .nils) ∨ (l ≠ [] ∧ ∃ ob, v = .sl ob 5 0 l.length ∧ H.get ob = some ⟨T.ty_api_Ins, 5, true, z_a1 l⟩)
noncomputable abbrev csL := z_bn.l0 z_cm.spec z_dp.spec z_cp.spec
theorem z_rl (v : BitVec 32) (H : Hp) (hw : H.WF) {r} (hr : aloop csL (AFr.al [(0, W32 v), (3, .nils), (4, .int .i64 24)]) H = r) :
  ∃ e fr' H', r = some (e, fr', H') ∧ (e = .exit 0 ∧ ∃ v3 y, fr' = AFr.al ([(0, W32 v), (3, v3)] ++ y) ∧ InsUp H' v3 (z_kb v)) := by
 refine z_ev hr (z_ct 4 (fun j fr H => H.WF ∧ ∃ v3 y, fr = AFr.al ([(0, W32 v), (3, v3), (4, .int .i64 (24 - 8 * j : Int))] ++ y) ∧ InsUp H v3 (z_do v j)) _ (fun j hj fr H hR => ?_) (fun fr H hR => ?_) ⟨hw, .nils, [], rfl, .inl ⟨rfl, rfl⟩⟩)
 ·obtain ⟨hw, v3, y, rfl, hR⟩ := hR
  have hk : (0 : Int) ≤ 24 - 8 * j := by omega
  have hk2 : (24 - 8 * (j : Int)).toNat = 24 - 8 * j := by omega
  have hj1 : (24 - 8 * ((j + 1 : Nat) : Int)) = 24 - 8 * (j : Int) - 8 := by omega
  have hbl : byteI v j ≤ 255 := by
   unfold byteI
   rw [BitVec.toNat_and]
   exact Nat.and_le_right
  have hstep : z_do v (j + 1) = if z_do v j ≠ [] then z_do v j ++ [lfI 0 8, adI 0 (byteI v j)] else if 0 < byteI v j ∨ j = 3 then [mvI 0 (byteI v j)] else [] := rfl
  have hll := z_gk v j
  rw [hstep, hj1]
  generalize z_do v j = l at *
  have hbyte : ((v >>> (24 - 8 * j)) &&& 255#32).toNat = byteI v j := rfl
  generalize byteI v j = b at *
  rcases hR with ⟨rfl, rfl⟩ | ⟨hne, ob, rfl, hb⟩
  ·rw [if_neg (by simp)]
   by_cases hp : 0 < b
   ·rw [if_pos (.inl hp)]
    have hp' : (0 : Int) < b := by omega
    refine ⟨_, _, _, by simp -implicitDefEqProofs +contextual (disch := omega) [z_bn.l0, hk, hk2, hbyte, hp', z_hc]; first | rfl | exact ⟨rfl, rfl⟩ | exact ⟨rfl, rfl, rfl⟩, .inl ⟨rfl, ?_, _, _, rfl, .inr ⟨by simp, _, rfl, ?_⟩⟩⟩
    ·(repeat' (first | assumption | with_reducible apply Hp.WF.push | with_reducible apply Hp.WF.set | with_reducible apply z_bl | exact Hp.WF.empty)) <;> (simp <;> omega)
    ·simp [z_a1, z_ef, mvI]
   ·obtain rfl : b = 0 := by omega
    by_cases h3 : j = 3
    ·subst h3
     rw [if_pos (.inr rfl)]
     have hb3 : v.toNat &&& 255 = 0 := by simpa using hbyte
     refine ⟨_, _, _, by simp -implicitDefEqProofs +contextual (disch := omega) [z_bn.l0, hb3, z_hc]; first | rfl | exact ⟨rfl, rfl⟩ | exact ⟨rfl, rfl, rfl⟩, .inl ⟨rfl, ?_, _, _, rfl, .inr ⟨by simp, _, rfl, ?_⟩⟩⟩
     ·(repeat' (first | assumption | with_reducible apply Hp.WF.push | with_reducible apply Hp.WF.set | with_reducible apply z_bl | exact Hp.WF.empty)) <;> (simp <;> omega)
     ·simp [z_a1, z_ef, mvI]
    ·rw [if_neg (by omega)]
     have hne : ¬ (24 - 8 * (j : Int)) = 0 := by omega
     refine ⟨_, _, _, by simp -implicitDefEqProofs +contextual (disch := omega) [z_bn.l0, hk, hk2, hbyte, hne, z_hc]; first | rfl | exact ⟨rfl, rfl⟩ | exact ⟨rfl, rfl, rfl⟩, .inl ⟨rfl, hw, _, _, rfl, .inl ⟨rfl, rfl⟩⟩⟩
  ·rw [if_pos hne]
   have hob := hw _ _ hb
   have hpos : 0 < l.length := List.length_pos_iff.2 hne
   have hpos' : (0 : Int) < l.length := by omega
   refine ⟨_, _, _, by simp -implicitDefEqProofs +contextual (disch := omega) [z_bn.l0, hk, hk2, hbyte, z_ik, z_t4, hb, hpos']; first | rfl | exact ⟨rfl, rfl⟩ | exact ⟨rfl, rfl, rfl⟩, .inl ⟨rfl, ?_, _, _, rfl, .inr ⟨by simp, _, by rw [List.length_append]; rfl, ?_⟩⟩⟩
   ·(repeat' (first | assumption | with_reducible apply Hp.WF.push | with_reducible apply Hp.WF.set | with_reducible apply z_bl | exact Hp.WF.empty)) <;> (simp <;> omega)
   ·simp [z_a1, z_ef, lfI, adI]
 ·obtain ⟨hw, v3, y, rfl, hR⟩ := hR
  refine ⟨_, _, _, by simp -implicitDefEqProofs +contextual (disch := omega) [z_bn.l0]; first | rfl | exact ⟨rfl, rfl⟩ | exact ⟨rfl, rfl, rfl⟩, by simp, rfl, _, _, rfl, hR⟩
theorem z_wo (v : BitVec 32) : z_bn.spec [W32 v] = some (.rsl 5 (z_a1 (z_kb v))) := by
 simp -implicitDefEqProofs +contextual (disch := omega) [z_bn.spec, z_bn]
 generalize hr : aloop _ _ _ = r
 obtain ⟨e, fr, X, rfl, rfl, v3, y, rfl, hR⟩ := z_rl v _ Hp.WF.empty hr
 have hl := z_gk v 4
 unfold z_kb at *
 generalize z_do v 4 = l at *
 rcases hR with ⟨rfl, rfl⟩ | ⟨hne, ob, rfl, hb⟩
 ·simp -implicitDefEqProofs +contextual (disch := omega) [z_a1]
 ·have ht := z_dx l
  simp -implicitDefEqProofs +contextual (disch := omega) [hb, ht]
end Go.Abs
end
section
namespace Go.Abs
open Th
def doesI (o : OpM) : List InsM :=
 if o.k = 1 then [alI 0 0 1] else if o.k = 2 then [alI 1 0 1] else if o.k = 3 then [alI 15 0 0] else if o.k = 4 then [lfI 0 o.n.toNat]
 else if o.k = 5 then (if o.n = 0#32 then [lfI 0 0] else [⟨5, 0, 0, 0, o.n.toNat⟩]) else if o.k = 6 then [mvI 2 ((32#32 - o.n) % 32#32).toNat, alI 7 0 2]
 else if o.k = 7 then z_kb o.n else if o.k = 0 then [⟨12, 0, 5, 0, 0⟩] else []
theorem z_zu (o : OpM) : z_bq.spec [.agg o.cells] = some (.rsl 5 (z_a1 (doesI o))) := by
 have hc := z_wo o.n
 obtain ⟨k, a, b, n⟩ := o
 unfold OpM.cells doesI
 dsimp only at *
 by_cases h1 : k = 1
 ·subst h1; simp -implicitDefEqProofs +contextual (disch := omega) [z_bq.spec, z_bq, z_me, z_a1, z_ef, alI]
 rw [if_neg h1]
 by_cases h2 : k = 2
 ·subst h2; simp -implicitDefEqProofs +contextual (disch := omega) [z_bq.spec, z_bq, z_me, z_a1, z_ef, alI]
 rw [if_neg h2]
 by_cases h3 : k = 3
 ·subst h3; simp -implicitDefEqProofs +contextual (disch := omega) [z_bq.spec, z_bq, z_me, z_a1, z_ef, alI]
 rw [if_neg h3]
 by_cases h4 : k = 4
 ·subst h4; simp -implicitDefEqProofs +contextual (disch := omega) [z_bq.spec, z_bq, z_ik, z_a1, z_ef, lfI]
 rw [if_neg h4]
 by_cases h5 : k = 5
 ·subst h5
  by_cases hn : n = 0#32
  ·subst hn; simp -implicitDefEqProofs +contextual (disch := omega) [z_bq.spec, z_bq, z_ik, z_a1, z_ef, lfI]
  ·simp -implicitDefEqProofs +contextual (disch := omega) [z_bq.spec, z_bq, z_ik, z_a1, z_ef, hn]
 rw [if_neg h5]
 by_cases h6 : k = 6
 ·subst h6
  generalize hm : (32#32 - n) % 32#32 = m
  simp -implicitDefEqProofs +contextual (disch := omega) [z_bq.spec, z_bq, z_hc, z_me, z_a1, z_ef, alI, mvI, hm]
 rw [if_neg h6]
 by_cases h7 : k = 7
 ·subst h7
  rw [if_pos rfl]
  generalize z_kb n = l at *
  simp -implicitDefEqProofs +contextual (disch := omega) [z_bq.spec, z_bq, hc]
 rw [if_neg h7]
 by_cases h0 : k = 0
 ·subst h0; simp -implicitDefEqProofs +contextual (disch := omega) [z_bq.spec, z_bq, z_a1, z_ef]
 rw [if_neg h0]
 simp -implicitDefEqProofs +contextual (disch := omega) [z_bq.spec, z_bq, z_a1, h1, h2, h3, h4, h5, h6, h7, h0]
@[simp] theorem z_vn (n : Nat) (k : IntKind) : z_fy (.sl n) .nils none (some (.int k 0)) none = some .nils := rfl
theorem z_0r (n : Nat) (h0 : 0 < n) (h : n ≤ 1000000) (H : Hp) : z_at.spec [.nils, .int .i64 n] H = some (.sl H.next 5 0 0, H.push ⟨T.ty_api_Ins, 5, true, []⟩) := by
 have h1 : ¬ (n : Int) < 0 := by omega
 have h2 : (0 : Int) < n := by omega
 simp -implicitDefEqProofs +contextual (disch := omega) [z_at.spec, z_at, h1, h2]
theorem z_u5 (a b c : List InsM) (ha : 1 ≤ a.length) (hl : a.length + b.length + c.length ≤ 1000) (H : Hp) (hw : H.WF) (ab sb : Nat) (hab : H.get ab = some ⟨T.ty_api_Ins, 5, true, z_a1 a⟩) (hsb : H.get sb = some ⟨T.ty_sl_api_Ins, 1, false, [[.sl ab 5 0 a.length], [.rsl 5 (z_a1 b)], [.rsl 5 (z_a1 c)]]⟩) :
  ∃ v H', z_aj.spec [.sl sb 1 0 3] H = some (v, H') ∧ ∃ ob, v = .sl ob 5 0 (a ++ b ++ c).length ∧ H'.get ob = some ⟨T.ty_api_Ins, 5, true, z_a1 (a ++ b ++ c)⟩ := by
 have hs1 : ¬ ((a.length : Int)) < 0 := by omega
 have hab' := hw _ _ hab
 have hsb' := hw _ _ hsb
 have hG := fun H => z_0r (a.length + b.length + c.length) (by omega) (by omega) H
 have hsum : ((a.length + b.length + c.length : Nat) : Int) = (a.length : Int) + b.length + c.length := by omega
 rw [hsum] at hG
 have hne : ¬ ab = sb := by intro e; subst e; rw [hab] at hsb; simp at hsb
 have hne' : ¬ sb = ab := fun e => hne e.symm
 have ta := z_dx a
 have tb := z_dx b
 have tc := z_dx c
 refine ⟨_, _, by simp -implicitDefEqProofs +contextual (disch := omega) [z_aj.spec, z_aj, z_al, z_aj.l0, z_aj.l1, hsb, hab, hG, hne, hne', ta, tb, tc]; exact ⟨rfl, rfl⟩, _, by rw [List.length_append, List.length_append], ?_⟩
 simp [← z_kp]
def regsI : List Nat → Int → List InsM
 | [], _ => []
 | x :: l, r => getI r x ++ regsI l (r + 1)
def headI (src : List Nat) : List InsM := mvI 0 0 :: (if 1 < src.length then [mvI 1 0] else [])
def stepI (o : OpM) (dst : Nat) (src : List Nat) : List InsM := headI src ++ regsI src 0 ++ doesI o ++ putI dst
theorem z_g7 (r : Int) (n : Nat) : (getI r n).length ≤ 4 := by have := (z_mg n).2; simp [getI]; omega
theorem z_p9 (n : Nat) : (putI n).length ≤ 4 := by have := (z_mg n).2; simp [putI]; omega
theorem z_nz (o : OpM) : (doesI o).length ≤ 8 := by
 have := z_gk o.n 4
 unfold doesI
 repeat' split
 all_goals first | (simp; done) | (unfold z_kb; omega)
theorem z_kc {sb : Nat} {H : Hp} {r : Option (AV × Hp)} (hr : z_aj.spec [.sl sb 1 0 3] H = r) (a b c : List InsM) (ha : 1 ≤ a.length) (hl : a.length + b.length + c.length ≤ 1000) (hw : H.WF) (ab : Nat) (hab : H.get ab = some ⟨T.ty_api_Ins, 5, true, z_a1 a⟩) (hsb : H.get sb = some ⟨T.ty_sl_api_Ins, 1, false, [[.sl ab 5 0 a.length], [.rsl 5 (z_a1 b)], [.rsl 5 (z_a1 c)]]⟩) :
  ∃ ob H', r = some (.sl ob 5 0 (a ++ b ++ c).length, H') ∧ H'.get ob = some ⟨T.ty_api_Ins, 5, true, z_a1 (a ++ b ++ c)⟩ := by
 subst hr
 obtain ⟨v, H', h, ob, rfl, hg⟩ := z_u5 a b c ha hl H hw ab sb hab hsb
 exact ⟨ob, H', h, hg⟩
theorem z_qk (o : OpM) (dst : Nat) (hd : dst ≤ 16000) (src : List Nat) (hs : src.length ≤ 2) (hx : ∀ x ∈ src, x ≤ 16000) :
  z_ck.spec [.agg o.cells, .int .i64 dst, .rsl 1 (ints (src.map fun x : Nat => (x : Int)))] = some (.rsl 5 (z_a1 (stepI o dst src))) := by
 have hdo := z_zu o
 have hpu := z_zr dst hd
 have hl1 := z_nz o
 have hl2 := z_p9 dst
 unfold OpM.cells at hdo ⊢
 generalize hD : doesI o = D at *
 generalize hP : putI dst = Q at *
 match src, hs, hx with
 | [], _, _ =>
  have hst : [mvI 0 0] ++ D ++ Q = stepI o dst [] := by simp [stepI, headI, regsI, hD, hP]
  generalize stepI o dst [] = L at *
  simp -implicitDefEqProofs +contextual (disch := omega) [z_ck.spec, z_ck, z_hc, z_al, z_ck.l0, ints, hdo, hpu]
  generalize hr : z_aj.spec _ _ = r
  obtain ⟨ob, H', rfl, hg⟩ := z_kc hr [mvI 0 0] D Q (by simp) (by simp; omega) (by (repeat' (first | assumption | with_reducible apply Hp.WF.push | with_reducible apply Hp.WF.set | with_reducible apply z_bl | exact Hp.WF.empty)) <;> (simp <;> omega)) 1 (by simp [z_a1, z_ef, mvI]) (by simp)
  rw [hst] at hg ⊢
  have ht := z_dx L
  simp -implicitDefEqProofs +contextual (disch := omega) [hg, ht]
 | [x], _, hx =>
  have hg0 := z_tv 0 x (hx x (by simp))
  have hl0 := z_g7 0 x
  have hst : mvI 0 0 :: getI 0 x ++ D ++ Q = stepI o dst [x] := by simp [stepI, headI, regsI, hD, hP]
  generalize stepI o dst [x] = L at *
  generalize getI 0 x = g0 at *
  have t0 := z_dx g0
  simp -implicitDefEqProofs +contextual (disch := omega) [z_ck.spec, z_ck, z_hc, z_al, z_ck.l0, ints, hdo, hpu, hg0, t0]
  generalize hr : z_aj.spec _ _ = r
  obtain ⟨ob, H', rfl, hg⟩ := z_kc hr (mvI 0 0 :: g0) D Q (by simp) (by simp; omega) (by (repeat' (first | assumption | with_reducible apply Hp.WF.push | with_reducible apply Hp.WF.set | with_reducible apply z_bl | exact Hp.WF.empty)) <;> (simp <;> omega)) 2 (by simp [z_a1, z_ef, mvI]) (by simp; omega)
  rw [hst] at hg ⊢
  have ht := z_dx L
  simp -implicitDefEqProofs +contextual (disch := omega) [hg, ht]
 | [x, y], _, hx =>
  have hg0 := z_tv 0 x (hx x (by simp))
  have hg1 := z_tv 1 y (hx y (by simp))
  have hl0 := z_g7 0 x
  have hl1' := z_g7 1 y
  have hst : mvI 0 0 :: mvI 1 0 :: (getI 0 x ++ getI 1 y) ++ D ++ Q = stepI o dst [x, y] := by simp [stepI, headI, regsI, hD, hP]
  generalize stepI o dst [x, y] = L at *
  generalize getI 0 x = g0 at *
  generalize getI 1 y = g1 at *
  have t0 := z_dx g0
  have t1 := z_dx g1
  simp -implicitDefEqProofs +contextual (disch := omega) [z_ck.spec, z_ck, z_hc, z_al, z_ck.l0, ints, hdo, hpu, hg0, t0, hg1, t1]
  generalize hr : z_aj.spec _ _ = r
  obtain ⟨ob, H', rfl, hg⟩ := z_kc hr (mvI 0 0 :: mvI 1 0 :: (g0 ++ g1)) D Q (by simp) (by simp; omega) (by (repeat' (first | assumption | with_reducible apply Hp.WF.push | with_reducible apply Hp.WF.set | with_reducible apply z_bl | exact Hp.WF.empty)) <;> (simp <;> omega)) 5 (by simp [z_a1, z_ef, mvI]) (by simp; omega)
  rw [hst] at hg ⊢
  have ht := z_dx L
  simp -implicitDefEqProofs +contextual (disch := omega) [hg, ht]
end Go.Abs
end
section
namespace Go.Abs
open Th
def z_cu (n : Int) : Bool := decide (0 ≤ n) && decide (n ≤ 16000)
theorem z_ny (k : Int) : z_bs.spec [.int .i64 k] = some (.int .i64 (if k = 1 ∨ k = 2 then 2 else if k = 0 ∨ k = 7 then 0 else 1)) := by
 by_cases h1 : k = 1
 ·subst h1; simp -implicitDefEqProofs +contextual (disch := omega) [z_bs.spec, z_bs]
 by_cases h2 : k = 2
 ·subst h2; simp -implicitDefEqProofs +contextual (disch := omega) [z_bs.spec, z_bs]
 rw [if_neg (by omega)]
 by_cases h0 : k = 0
 ·subst h0; simp -implicitDefEqProofs +contextual (disch := omega) [z_bs.spec, z_bs]
 by_cases h7 : k = 7
 ·subst h7; simp -implicitDefEqProofs +contextual (disch := omega) [z_bs.spec, z_bs]
 rw [if_neg (by omega)]
 simp -implicitDefEqProofs +contextual (disch := omega) [z_bs.spec, z_bs, h1, h2, h0, h7]
theorem z_vk (n : Int) : z_cb.spec [.int .i64 n] = some (.bool (!z_cu n)) := by
 have hs := z_ot n
 unfold z_cu
 generalize (decide (0 ≤ n) && decide (n ≤ 16000)) = b at *
 cases b <;> simp -implicitDefEqProofs +contextual (disch := omega) [z_cb.spec, z_cb, hs]
theorem z_wp (n : Int) : z_cc.spec [.int .i64 n] = some (.bool (!z_cu n)) := by
 have hs := z_ot n
 unfold z_cu
 generalize (decide (0 ≤ n) && decide (n ≤ 16000)) = b at *
 cases b <;> simp -implicitDefEqProofs +contextual (disch := omega) [z_cc.spec, z_cc, hs]
theorem z_sk (g : FuncId) (s : SpecP) (hC : z_an.C z_cb.spec z_cc.spec z_a0.spec g = some (.pure false s)) (hs : ∀ n, s [.int .i64 n] = some (.bool (!z_cu n)))
  (X : Hp) (hX : X.WF) (l : List Int) (hll : l.length ≤ 1000000000) :
  ∃ i : Int, z_an.spec [.rsl 1 (ints l), .clo g [] []] X = some (.int .i64 i, X) ∧ (0 ≤ i ↔ (l.any fun n => !z_cu n) = true) := by
 have hrun : ∃ (i : Int), z_an.spec [.rsl 1 (ints l), .clo g [] []] X = forget X (some ([.int .i64 i], X)) ∧ (0 ≤ i ↔ (l.any fun n => !z_cu n) = true) := by
  generalize hA : (l.any fun n => !z_cu n) = A
  simp -implicitDefEqProofs +contextual (disch := omega) [z_an.spec, z_an]
  generalize hr : aloop _ _ _ = r
  obtain ⟨e, fr', X', rfl, rfl, hq⟩ : ∃ e fr' X', r = some (e, fr', X') ∧ (X' = X ∧ ((e = .exit 0 ∧ A = false) ∨ (e = .ret ∧ A = true ∧ ∃ k : Nat, fr' 4 = .int .i64 k))) := by
   refine z_ev hr (z_ct l.length (fun k fr H => H = X ∧ (∃ y, fr = AFr.al ([(0, .rsl 1 (ints l)), (1, .clo g [] []), (7, .int .i64 l.length), (8, .int .i64 k)] ++ y)) ∧ ((l.take k).any fun n => !z_cu n) = false) _ (fun k hk fr H hR => ?_) (fun fr H hR => ?_) ⟨rfl, ⟨[], rfl⟩, rfl⟩)
   ·obtain ⟨rfl, ⟨y, rfl⟩, h3⟩ := hR
    have hk' : (k : Int) < l.length := by omega
    have hk1 : ((k + 1 : Nat) : Int) = (k : Int) + 1 := by omega
    have hme : l[k] ∈ l := List.getElem_mem hk
    have h1 := hs (ati l k)
    have hss : ((l.take (k + 1)).any fun n => !z_cu n) = !z_cu (ati l k) := by rw [List.take_succ_eq_append_getElem hk, List.any_append, h3, z_i9 l k hk]; simp
    rw [hss]
    rw [← z_i9 l k hk] at hme
    cases hv : z_cu (ati l k) with
    | false =>
     rw [hv] at h1
     refine ⟨_, _, _, by simp -implicitDefEqProofs +contextual (disch := omega) [z_an.l0, z_ft, z_jc, hC, hk, hk', h1]; first | rfl | exact ⟨rfl, rfl⟩ | exact ⟨rfl, rfl, rfl⟩, .inr ⟨by simp, rfl, .inr ⟨rfl, hA.symm.trans (List.any_eq_true.2 ⟨_, hme, by rw [hv]; rfl⟩), k, by simp⟩⟩⟩
    | true =>
     rw [hv] at h1
     rw [hk1]
     refine ⟨_, _, _, by simp -implicitDefEqProofs +contextual (disch := omega) [z_an.l0, z_ft, z_jc, hC, hk, hk', h1]; first | rfl | exact ⟨rfl, rfl⟩ | exact ⟨rfl, rfl, rfl⟩, .inl ⟨rfl, rfl, ⟨_, rfl⟩, rfl⟩⟩
   ·obtain ⟨rfl, ⟨y, rfl⟩, h3⟩ := hR
    rw [List.take_length] at h3
    refine ⟨_, _, _, by simp -implicitDefEqProofs +contextual (disch := omega) [z_an.l0]; first | rfl | exact ⟨rfl, rfl⟩ | exact ⟨rfl, rfl, rfl⟩, by simp, rfl, .inl ⟨rfl, hA.symm.trans h3⟩⟩
  rcases hq with ⟨rfl, q⟩ | ⟨rfl, q, k, hk⟩
  ·refine ⟨-1, by simp -implicitDefEqProofs +contextual (disch := omega) [], by rw [q]; simp⟩
  ·refine ⟨k, by simp -implicitDefEqProofs +contextual (disch := omega) [hk], by rw [q]; simp⟩
 obtain ⟨i, h1, h2⟩ := hrun
 refine ⟨i, ?_, h2⟩
 rw [h1, z_nu hX (Nat.le_refl _) (fun _ _ => rfl) rfl]
 rfl
theorem z_m5 (g : FuncId) (s : SpecP) (hC : z_an.C z_cb.spec z_cc.spec z_a0.spec g = some (.pure false s)) (hs : ∀ n, s [.int .i64 n] = some (.bool (!z_cu n)))
  (X : Hp) (hX : X.WF) (l : List Int) (hll : l.length ≤ 1000000000) :
  z_ak.spec [.rsl 1 (ints l), .clo g [] []] X = some (.bool (l.any fun n => !z_cu n), X) := by
 obtain ⟨i, h1, h2⟩ := z_sk g s hC hs X hX l hll
 have e : z_ak.spec [.rsl 1 (ints l), .clo g [] []] X = forget X (some ([.bool (l.any fun n => !z_cu n)], X)) := by
  by_cases hi : 0 ≤ i
  ·simp -implicitDefEqProofs +contextual (disch := omega) [z_ak.spec, z_ak, h1, hi, h2.1 hi]
  ·have : (l.any fun n => !z_cu n) = false := by
    rw [Bool.eq_false_iff]; exact fun q => hi (h2.2 q)
   simp -implicitDefEqProofs +contextual (disch := omega) [z_ak.spec, z_ak, h1, hi, this]
 rw [e, z_nu hX (Nat.le_refl _) (fun _ _ => rfl) rfl]
 rfl
theorem z_ze : z_an.C z_cb.spec z_cc.spec z_a0.spec 72 = some (.pure false z_cb.spec) := by simp [z_an.C, Tab.add]
theorem z_zf : z_an.C z_cb.spec z_cc.spec z_a0.spec 80 = some (.pure false z_cc.spec) := by simp [z_an.C, Tab.add]
end Go.Abs
end
section
namespace Go.Abs
open Th
theorem z_i0 {g : FuncId} {s : SpecP} (hC : z_an.C z_cb.spec z_cc.spec z_a0.spec g = some (.pure false s)) (hs : ∀ n, s [.int .i64 n] = some (.bool (!z_cu n)))
  {X : Hp} {l : List Int} {r} (hr : z_ak.spec [.rsl 1 (ints l), .clo g [] []] X = r) (hX : X.WF) (hll : l.length ≤ 1000000000) :
  r = some (.bool (l.any fun n => !z_cu n), X) := by
 subst hr; exact z_m5 g s hC hs X hX l hll
def oneC (o : OpM) : CodeM := ⟨1, [⟨o.k, 0, 0, o.n⟩], []⟩
def z_de (k : Int) : Int := if k = 1 ∨ k = 2 then 2 else if k = 0 ∨ k = 7 then 0 else 1
def fitsI (o : OpM) (dst : Int) (src : List Int) : Bool := (oneC o).can && decide ((src.length : Int) = z_de o.k) && z_cu dst && !(src.any fun n => !z_cu n)
theorem z_m1 (l : List Int) (h : (l.any fun n => !z_cu n) = false) : ∃ m : List Nat, l = m.map (fun x : Nat => (x : Int)) ∧ ∀ x ∈ m, x ≤ 16000 := by
 refine ⟨l.map Int.toNat, ?_, fun x hx => ?_⟩
 ·rw [List.map_map]
  refine (List.map_id l).symm.trans (List.map_congr_left fun n hn => ?_)
  have := List.any_eq_false.1 h n hn
  simp [z_cu] at this
  simp; omega
 ·obtain ⟨n, hn, rfl⟩ := List.mem_map.1 hx
  have := List.any_eq_false.1 h n hn
  simp [z_cu] at this
  omega
theorem z_js (k : Int) : z_de k ≤ 2 := by unfold z_de; repeat' split <;> omega
theorem z_vj (o : OpM) (a b : Int) (dst : Nat) (src : List Nat) : stepI ⟨o.k, a, b, o.n⟩ dst src = stepI o dst src := rfl
theorem z_w7 (o : OpM) (dst : Int) (src : List Int) (hl : src.length ≤ 1000000000) :
  z_cy.spec [.agg o.cells, .int .i64 dst, .rsl 1 (ints src)] = some (.rsl 5 (z_a1 (if fitsI o dst src = true then stepI o dst.toNat (src.map Int.toNat) else []))) := by
 have hcan := Can_eq' (oneC o) (by simp [oneC]) (by simp [oneC])
 have ht := z_ny o.k
 have htk : (if o.k = 1 ∨ o.k = 2 then (2 : Int) else if o.k = 0 ∨ o.k = 7 then 0 else 1) = z_de o.k := rfl
 rw [htk] at ht
 have hst := z_ot dst
 unfold CodeM.cells oneC at hcan
 simp only [z_d0, List.map_cons, List.map_nil, OpM.cells, ints, Option.some.injEq] at hcan
 unfold fitsI
 have hone : (oneC o).can = (CodeM.mk 1 [⟨o.k, 0, 0, o.n⟩] []).can := rfl
 rw [← hone] at hcan
 have hso : (decide (0 ≤ dst) && decide (dst ≤ 16000)) = z_cu dst := rfl
 rw [hso] at hst
 unfold OpM.cells
 cases hc : (oneC o).can with
 | false =>
  rw [hc] at hcan
  simp -implicitDefEqProofs +contextual (disch := omega) [z_cy.spec, z_cy, hcan, z_a1]
 | true =>
  rw [hc] at hcan
  by_cases hlen : (src.length : Int) = z_de o.k
  ·rw [decide_eq_true hlen]
   cases hs : z_cu dst with
   | false =>
    rw [hs] at hst
    simp -implicitDefEqProofs +contextual (disch := omega) [z_cy.spec, z_cy, hcan, ht, hlen, hst, z_a1]
   | true =>
    rw [hs] at hst
    simp -implicitDefEqProofs +contextual (disch := omega) [z_cy.spec, z_cy, hcan, ht, hlen, hst]
    generalize hr : z_ak.spec _ _ = r
    obtain rfl := z_i0 z_ze z_vk hr (by (repeat' (first | assumption | with_reducible apply Hp.WF.push | with_reducible apply Hp.WF.set | with_reducible apply z_bl | exact Hp.WF.empty)) <;> (simp <;> omega)) hl
    cases hany : src.any fun n => !z_cu n with
    | true =>
     simp -implicitDefEqProofs +contextual (disch := omega) [z_a1]
     intro h
     simp at hany
     obtain ⟨x, hx, h2⟩ := hany
     rw [h x hx] at h2; cases h2
    | false =>
     obtain ⟨m, rfl, hm⟩ := z_m1 src hany
     obtain ⟨k, rfl⟩ : ∃ k : Nat, dst = k := ⟨dst.toNat, by simp [z_cu] at hs; omega⟩
     have hk : k ≤ 16000 := by simp [z_cu] at hs; omega
     have hml : m.length ≤ 2 := by have := z_js o.k; simp at hlen; omega
     have hE := z_qk ⟨o.k, 0, 0, o.n⟩ k hk m hml hm
     rw [z_vj] at hE
     unfold OpM.cells at hE
     have hmm : (m.map fun x : Nat => (x : Int)).map Int.toNat = m := by rw [List.map_map]; exact (List.map_congr_left fun x _ => by simp).trans (List.map_id m)
     rw [hmm, Int.toNat_natCast]
     generalize stepI o k m = L at *
     simp -implicitDefEqProofs +contextual (disch := omega) [hE]
     rw [if_pos (fun a ha => by have := hm a ha; simp [z_cu]; omega)]
  ·rw [decide_eq_false hlen]
   simp -implicitDefEqProofs +contextual (disch := omega) [z_cy.spec, z_cy, hcan, ht, hlen, z_a1]
end Go.Abs
end
end
