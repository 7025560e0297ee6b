/-
  What code comes to: the document's run, whole.
-/
import Derived.Test.YtncablokgkejjaaR4
set_option linter.unusedSimpArgs false
set_option linter.unusedVariables false
namespace Go.Abs
open Th
theorem exe_end (B : AHeap) (b cb wb tb so oo : Nat) (F : Far b cb wb tb so oo) (m : MemM) (lim : Int) (on : Bool) (x : List (Nat × AV)) (k : Nat) (e : Int) (ls : List LeakM) (hon : on = false ∨ lim ≤ k) (G : RI B b cb wb tb so oo m k e ls) :
    ∃ fr', aloop exeL (AFr.al ((3, .int .i64 lim) :: (8, .ptr 0 5 0 0) :: (9, .ptr b 5 0 0) :: (10, .ptr so 13 0 0) :: (12, .ptr oo 5 0 0) :: (13, .bool on) :: x)) (B.rmem b cb wb tb m) = some (.exit 2, fr', B.rmem b cb wb tb m) ∧ fr' 8 = .ptr 0 5 0 0 ∧ fr' 9 = .ptr b 5 0 0 ∧ fr' 12 = .ptr oo 5 0 0 := by
  obtain ⟨wf, fix, lc, ns, no, fst, c, fl, out, hc⟩ := G
  obtain ⟨s0, s1, s2, s3, s4, s5, o0, o1, o2, o3, o4, z1, z2, z3, z4⟩ := F
  simp only [outB] at out
  cases on with
  | false =>
    refine ⟨?_, aloop_exit (by simp) ?_, ?_⟩
    rotate_left
    · simp -implicitDefEqProofs +contextual (disch := omega) [exeL, ref08_Exec.l1, out, rmemGet]
      rfl
    · exact ⟨rfl, rfl, rfl⟩
  | true =>
    have hk : ¬ (k : Int) < lim := by rcases hon with h | h; cases h; omega
    refine ⟨?_, aloop_exit (by simp) ?_, ?_⟩
    rotate_left
    · simp -implicitDefEqProofs +contextual (disch := omega) [exeL, ref08_Exec.l1, out, rmemGet, hk]
      rfl
    · exact ⟨rfl, rfl, rfl⟩
theorem exe_all (b cb wb tb so oo : Nat) (F : Far b cb wb tb so oo) (lim : Nat) (hl : lim ≤ 1048576) : ∀ (d : Nat) (B : AHeap) (s : StM) (m : MemM) (ls : List LeakM) (x : List (Nat × AV)), ls.length + d = lim → m.Ok → RI B b cb wb tb so oo m ls.length 80 ls → B.get so = some (stBlk s) →
    ∃ fr' B', aloop exeL (exeF lim b so oo true x) (B.rmem b cb wb tb m) = some (.exit 2, fr', B'.rmem b cb wb tb (goL d s m).2.1) ∧ (fr' 8 = .ptr 0 5 0 0 ∧ fr' 9 = .ptr b 5 0 0 ∧ fr' 12 = .ptr oo 5 0 0) ∧ RI B' b cb wb tb so oo (goL d s m).2.1 (ls ++ (goL d s m).1).length (goL d s m).2.2 (ls ++ (goL d s m).1)
  | 0, B, s, m, ls, x, h, hm, G, hs => by
    obtain rfl : ls.length = lim := by omega
    obtain ⟨fr', h1, h2⟩ := exe_end B b cb wb tb so oo F m ls.length true x ls.length 80 ls (.inr (Int.le_refl _)) G
    exact ⟨fr', B, h1, h2, by simpa [goL] using G⟩
  | d + 1, B, s, m, ls, x, h, hm, G, hs => by
    unfold goL
    rcases exe_leak B b cb wb tb so oo F s m hm lim x hl ls (by omega) G hs with ⟨he, B', h1, h2⟩ | ⟨he, hst, B', h1, h2⟩ | ⟨he, hst, B', h1, h2, h3⟩
    · rw [if_pos he]
      obtain ⟨fr', q1, q2⟩ := exe_end B' b cb wb tb so oo F _ lim false [] _ _ _ (.inl rfl) h2
      exact ⟨fr', B', by rw [aloop_step h1]; exact q1, q2, by simpa using h2⟩
    · rw [if_neg (by rw [he]; simp), if_pos hst]
      obtain ⟨fr', q1, q2⟩ := exe_end B' b cb wb tb so oo F _ lim false [] _ _ _ (.inl rfl) h2
      exact ⟨fr', B', by rw [aloop_step h1]; exact q1, q2, by simpa using h2⟩
    · rw [if_neg (by rw [he]; simp), if_neg (by rw [hst]; simp)]
      obtain ⟨fr', B2, q1, q2, q3⟩ := exe_all b cb wb tb so oo F lim hl d B' (stepM s m).s (stepM s m).m (ls ++ [leakM s m]) [(76, .bool false)] (by simp; omega) ((keeps_step s m).ok hm) (by simpa using h2) h3
      exact ⟨fr', B2, by rw [aloop_step h1, q1], q2, by simpa using q3⟩
noncomputable abbrev exeL0 := ref08_Exec.l0 ref05_New.spec ref07_Step.spec
theorem exe_put (B : AHeap) (b cb wb tb : Nat) (m : MemM) (fix : RFix B b cb wb tb m) (words : List (BitVec 32)) (k : Nat) (hk : k < words.length) (hl : m.words.length = words.length) (hl2 : words.length ≤ 16000) (a c d : AV) :
    exeL0 (AFr.al [(1, .rsl 1 (w32s words)), (3, a), (8, c), (9, .ptr b 5 0 0), (10, d), (11, .int .i64 k)]) (B.rmem b cb wb tb m) =
      some (.normal, AFr.al [(1, .rsl 1 (w32s words)), (3, a), (8, c), (9, .ptr b 5 0 0), (10, d), (11, .int .i64 (k + 1 : Nat))], B.rmem b cb wb tb { m with words := m.words.set k (at0 words k) }) := by
  have hc := cAV_pos wb words.length (by omega)
  have hG : (B.rmem b cb wb tb m).get b = some (rBlk cb wb tb m) := by rw [rmem_get, if_pos rfl]
  have hW : (B.rmem b cb wb tb m).get wb = some (wrdBlk m.words) := by rw [rmem_get, if_neg fix.bw, if_pos ⟨rfl, by omega⟩]
  have hst := rmem_store_w B b cb wb tb m { m with words := m.words.set k (at0 words k) } fix.bw.symm (by simp) (by omega) (by simp [rBlk])
  simp only [rBlk, wrdBlk, hl, hc] at hG hW hst
  have h1 : (k : Int) < (words.length : Int) := by omega
  simp -implicitDefEqProofs +contextual (disch := omega) [exeL0, ref08_Exec.l0, hG, hW, h1, hl, hk, hst]
theorem exe_words (B : AHeap) (b cb wb tb : Nat) (code : List (BitVec 16)) (words tape : List (BitVec 32)) (fix : RFix B b cb wb tb (MemM.new code words.length tape)) (hl2 : words.length ≤ 16000) (a c d : AV) :
    ∃ fr', aloop exeL0 (AFr.al [(1, .rsl 1 (w32s words)), (3, a), (8, c), (9, .ptr b 5 0 0), (10, d), (11, .int .i64 0)]) (B.rmem b cb wb tb (MemM.new code words.length tape)) = some (.exit 0, fr', B.rmem b cb wb tb (startM code words tape)) ∧
      fr' 3 = a ∧ fr' 8 = c ∧ fr' 9 = .ptr b 5 0 0 ∧ fr' 10 = d := by
  have hl : (MemM.new code words.length tape).words.length = words.length := by simp only [MemM.new, List.length_replicate]; omega
  have h := aloop_go (f := exeL0) (fun k => AFr.al [(1, .rsl 1 (w32s words)), (3, a), (8, c), (9, .ptr b 5 0 0), (10, d), (11, .int .i64 (k : Nat))]) (fun k => B.rmem b cb wb tb ((MemM.new code words.length tape).put4 words k)) words.length (fun k hk => by
    obtain ⟨q1, q2, q3, q4⟩ := put4_keep (MemM.new code words.length tape) words k
    exact exe_put B b cb wb tb _ (fix.of q1 q2) words k hk (by rw [q3, hl]) hl2 a c d) 0 (by omega)
  rw [put4_start code words tape hl2] at h
  have hG : (B.rmem b cb wb tb (startM code words tape)).get b = some (rBlk cb wb tb (startM code words tape)) := by rw [rmem_get, if_pos rfl]
  by_cases h0 : words.length = 0
  · have hc : cAV wb 0 = .nils := rfl
    refine ⟨?_, h.trans (aloop_exit (by simp) ?_), ?_⟩
    rotate_left
    · simp only [rBlk, startM, h0, hc] at hG ⊢
      simp -implicitDefEqProofs +contextual (disch := omega) [exeL0, ref08_Exec.l0, hG]
      rfl
    · exact ⟨rfl, rfl, rfl, rfl⟩
  · have hc := cAV_pos wb words.length (by omega)
    refine ⟨?_, h.trans (aloop_exit (by simp) ?_), ?_⟩
    rotate_left
    · simp only [rBlk, startM, hc] at hG ⊢
      simp -implicitDefEqProofs +contextual (disch := omega) [exeL0, ref08_Exec.l0, hG]
      rfl
    · exact ⟨rfl, rfl, rfl, rfl⟩
theorem code_else {X : AHeap} {b cb wb tb : Nat} {m : MemM} (wf : X.WF) (fix : RFix X b cb wb tb m) (h : 1 ≤ cb) (h2 : 1 ≤ tb) : ∃ cb', 1 ≤ cb' ∧ cb' < X.next ∧ RFix X b cb' wb tb m ∧ ∀ (Y : AHeap) (m' : MemM), m'.code = m.code → Y.rmem b cb wb tb m' = Y.rmem b cb' wb tb m' := by
  by_cases h0 : 0 < m.code.length
  · exact ⟨cb, h, fix.cb wf h0, fix, fun _ _ _ => rfl⟩
  · refine ⟨tb, h2, fix.tb wf, ⟨fun q => (h0 q).elim, fix.tape, fix.hb, fix.hwb, fix.bw, fix.bt, fix.bt, fix.wt, fix.wt⟩, fun Y m' hm' => ?_⟩
    have : m'.code.length = 0 := by rw [hm']; omega
    simp only [AHeap.rmem, rBlk, this, cAV, if_true]
set_option maxHeartbeats 4000000 in
theorem exe_eq (code : List (BitVec 16)) (words tape : List (BitVec 32)) (lim : Int) (hc : code.length ≤ 1000000000) (hw : words.length ≤ 16000) (ht : tape.length ≤ 1000000000) :
    ref08_Exec.spec [.rsl 1 (w16s code), .rsl 1 (w32s words), .rsl 1 (w32s tape), .int .i64 lim] = some (outAV (goL (min (max lim 0) 1048576).toNat s00 (startM code words tape)) true) := by
  obtain ⟨X, b, cb0, wb, tb, hn, wf, fix0, i1, i20, i3, i4, i5, hX⟩ := rnew_ex (AHeap.empty.push ⟨T.ty_api_Outcome, 5, true, [[.int .i64 0, .int .i64 0, .int .i64 0, .nils, .nils]]⟩) code tape words.length (AHeap.WF.push AHeap.WF.empty) hc ht
  simp only [AHeap.next_push, empty_next, Nat.zero_add] at i1 i20 i3 i4 i5 hX
  have g0 := hX 0 (by omega)
  simp at g0
  obtain ⟨cb, i2, icb, fix, hcb⟩ := code_else wf fix0 i20 i4
  rw [hcb X _ rfl] at hn
  clear hcb fix0 i20 hX
  have hb := fix.hb; have hwb := fix.hwb; have htb := wf _ _ fix.tape
  have wfs : ((X.push ⟨T.ty_api_State, 13, true, [s00.cells]⟩).set X.next (some ⟨T.ty_api_State, 13, true, [s00.cells]⟩)).WF := AHeap.WF.set (AHeap.WF.push wf) (by simp)
  have fix1 : RFix ((X.push ⟨T.ty_api_State, 13, true, [s00.cells]⟩).set X.next (some ⟨T.ty_api_State, 13, true, [s00.cells]⟩)) b cb wb tb (MemM.new code words.length tape) := fix.keep (by simp) (by simp (disch := omega)) (by simp (disch := omega))
  obtain ⟨fr1, w1, w2, w3, w4, w5⟩ := exe_words _ b cb wb tb code words tape fix1 hw (.int .i64 lim) (.ptr 0 5 0 0) (.ptr X.next 13 0 0)
  obtain ⟨n, hn1⟩ : ∃ n : Nat, n = (min (max lim 0) 1048576).toNat := ⟨_, rfl⟩
  rw [← hn1]
  have hok := start_ok code words tape hw ht
  have hK := goL_keeps n s00 (startM code words tape)
  have fix2 : RFix (((((X.push ⟨T.ty_api_State, 13, true, [s00.cells]⟩).set X.next (some ⟨T.ty_api_State, 13, true, [s00.cells]⟩)).push ⟨T.ty_api_Outcome, 5, true, [[.int .i64 0, .int .i64 0, .int .i64 0, .nils, .nils]]⟩).set (X.next + 1) (some ⟨T.ty_api_Outcome, 5, true, [[.int .i64 0, .int .i64 0, .int .i64 80, .nils, .nils]]⟩))) b cb wb tb (startM code words tape) :=
    (fix1.of (m' := startM code words tape) rfl rfl).keep (by simp) (by simp (disch := omega)) (by simp (disch := omega))
  have hF : Far b cb wb tb X.next (X.next + 1) := ⟨by omega, by omega, by omega, by omega, by omega, by omega, by omega, by omega, by omega, by omega, by omega, by omega, by omega, by omega, by omega⟩
  have hG : RI (((((X.push ⟨T.ty_api_State, 13, true, [s00.cells]⟩).set X.next (some ⟨T.ty_api_State, 13, true, [s00.cells]⟩)).push ⟨T.ty_api_Outcome, 5, true, [[.int .i64 0, .int .i64 0, .int .i64 0, .nils, .nils]]⟩).set (X.next + 1) (some ⟨T.ty_api_Outcome, 5, true, [[.int .i64 0, .int .i64 0, .int .i64 80, .nils, .nils]]⟩))) b cb wb tb X.next (X.next + 1) (startM code words tape) 0 80 [] :=
    ⟨AHeap.WF.set (AHeap.WF.push wfs) (by simp), fix2, by simp; omega, by simp; omega, by simp, by simp (disch := omega) [outB, g0], ⟨0, true, by simp (disch := omega) [outB, lAV], fun h => (h rfl).elim⟩⟩
  have key : ∃ fr' B', aloop exeL (AFr.al [(3, .int .i64 (min lim 1048576)), (8, .ptr 0 5 0 0), (9, .ptr b 5 0 0), (10, .ptr X.next 13 0 0), (12, .ptr (X.next + 1) 5 0 0), (13, .bool true)]) ((((((X.push ⟨T.ty_api_State, 13, true, [s00.cells]⟩).set X.next (some ⟨T.ty_api_State, 13, true, [s00.cells]⟩)).push ⟨T.ty_api_Outcome, 5, true, [[.int .i64 0, .int .i64 0, .int .i64 0, .nils, .nils]]⟩).set (X.next + 1) (some ⟨T.ty_api_Outcome, 5, true, [[.int .i64 0, .int .i64 0, .int .i64 80, .nils, .nils]]⟩))).rmem b cb wb tb (startM code words tape)) =
      some (.exit 2, fr', B'.rmem b cb wb tb (goL n s00 (startM code words tape)).2.1) ∧ (fr' 8 = .ptr 0 5 0 0 ∧ fr' 9 = .ptr b 5 0 0 ∧ fr' 12 = .ptr (X.next + 1) 5 0 0) ∧ RI B' b cb wb tb X.next (X.next + 1) (goL n s00 (startM code words tape)).2.1 (goL n s00 (startM code words tape)).1.length (goL n s00 (startM code words tape)).2.2 (goL n s00 (startM code words tape)).1 := by
    by_cases h0 : lim ≤ 0
    · obtain rfl : n = 0 := by omega
      obtain ⟨fr', h1, h2⟩ := exe_end _ b cb wb tb X.next (X.next + 1) hF _ (min lim 1048576) true [] 0 80 [] (.inr (by omega)) hG
      exact ⟨fr', _, h1, h2, hG⟩
    · obtain ⟨fr', B', h1, h2, h3⟩ := exe_all b cb wb tb X.next (X.next + 1) hF n (by omega) n _ s00 (startM code words tape) [] [] (by simp) hok hG (by simp (disch := omega) [stBlk])
      have e : (min lim 1048576) = (n : Int) := by omega
      rw [e]
      exact ⟨fr', B', h1, h2, by simpa using h3⟩
  obtain ⟨fr', B', hl, ⟨f1, f2, f3⟩, ⟨wf', fix', lc', ns', no', fst', c, fl, out, hcc⟩⟩ := key
  unfold outAV
  clear hG fix2 fix1 fix wfs
  have hwl := hK.words
  have hws : (startM code words tape).words.length = words.length := rfl
  rw [hws] at hwl
  generalize goL n s00 (startM code words tape) = R at *
  obtain ⟨ls, m', e⟩ := R
  dsimp only at *
  simp only [if_true]
  obtain ⟨s0, s1, s2, s3, s4, s5, o0, o1, o2, o3, o4, z1, z2, z3, z4⟩ := hF
  have q1 := fix'.hb; have q2 := fix'.hwb; have q3 := fix'.bw
  unfold exeL at hl
  unfold exeL0 at w1
  have es : s00.cells = [W32 0#32, W32 0#32, W32 0#32, W32 0#32, W32 0#32, W32 0#32, W32 0#32, W32 0#32, W32 0#32, .bool false, .bool false, .bool false, .bool false] := rfl
  rw [es] at hl w1
  simp only [outB] at out fst'
  have hGb : ∀ B'' : AHeap, (B''.rmem b cb wb tb m').get b = some (rBlk cb wb tb m') := fun B'' => by rw [rmem_get, if_pos rfl]
  have hmin : (¬ 1048576 < lim → min lim 1048576 = lim) ∧ (1048576 < lim → min lim 1048576 = 1048576) := ⟨fun h => by omega, fun h => by omega⟩
  have hnx : (B'.next : Nat) > X.next := ns'
  by_cases hW0 : words.length = 0
  · have hwnil : m'.words = [] := List.eq_nil_of_length_eq_zero (by omega)
    have hnil : w32s [] = ([] : List (List AV)) := rfl
    have hc0 : cAV wb 0 = .nils := rfl
    simp only [rBlk, hwl, hW0, hc0] at hGb
    rw [hwnil]
    by_cases hlim : 1048576 < lim
    all_goals
      first | rw [hmin.1 hlim] at hl | rw [hmin.2 hlim] at hl
      by_cases hls : ls = []
      · subst hls
        simp only [lAV, if_true] at out
        simp -implicitDefEqProofs +contextual (disch := try first | omega | assumption | (simp only [AHeap.next_set, AHeap.next_push]; omega) | (simp; done)) [ref08_Exec.spec, ref08_Exec, hn, w1, w2, w3, w4, w5, hl, f1, f2, f3, out, fst', hGb, hlim, hnil, rmemPush, rmemSet, rmemGet]
      · obtain ⟨c0, c1, c2, c3, c4, c6, c7, hcg⟩ := hcc hls
        have hc7 := wf' _ _ hcg
        simp only [lAV, hls, if_false] at out
        simp -implicitDefEqProofs +contextual (disch := try first | omega | assumption | (simp only [AHeap.next_set, AHeap.next_push]; omega) | (simp; done)) [ref08_Exec.spec, ref08_Exec, hn, w1, w2, w3, w4, w5, hl, f1, f2, f3, out, fst', hGb, hlim, hnil, hcg, rmemPush, rmemSet, rmemGet]
        exact List.take_of_length_le (by simp)
  · have hGw : ∀ B'' : AHeap, (B''.rmem b cb wb tb m').get wb = some (wrdBlk m'.words) := fun B'' => by rw [rmem_get, if_neg q3, if_pos ⟨rfl, by omega⟩]
    have hc0 := cAV_pos wb words.length (by omega)
    simp only [rBlk, hwl, hc0, wrdBlk] at hGb hGw
    by_cases hlim : 1048576 < lim
    all_goals
      first | rw [hmin.1 hlim] at hl | rw [hmin.2 hlim] at hl
      by_cases hls : ls = []
      · subst hls
        simp only [lAV, if_true] at out
        simp -implicitDefEqProofs +contextual (disch := try first | omega | assumption | (simp only [AHeap.next_set, AHeap.next_push]; omega) | (simp; done)) [ref08_Exec.spec, ref08_Exec, hn, w1, w2, w3, w4, w5, hl, f1, f2, f3, out, fst', hGb, hGw, hlim, hwl, rmemPush, rmemSet, rmemGet]
        rw [← hwl]; simp
      · obtain ⟨c0, c1, c2, c3, c4, c6, c7, hcg⟩ := hcc hls
        have hc7 := wf' _ _ hcg
        simp only [lAV, hls, if_false] at out
        simp -implicitDefEqProofs +contextual (disch := try first | omega | assumption | (simp only [AHeap.next_set, AHeap.next_push]; omega) | (simp; done)) [ref08_Exec.spec, ref08_Exec, hn, w1, w2, w3, w4, w5, hl, f1, f2, f3, out, fst', hGb, hGw, hlim, hwl, hcg, rmemPush, rmemSet, rmemGet]
        rw [← hwl]; simp
        exact List.take_of_length_le (by simp)
end Go.Abs
