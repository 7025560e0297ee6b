/-
  Which registers an instruction reads: the document's list.
-/
import Derived.Test.YteohnepdbjmghaaC15
import Derived.Test.YteohnepdbjmghaaT5
set_option linter.unusedSimpArgs false
set_option linter.unusedVariables false
namespace Go.Abs
open Th
def bools (f : Nat → Bool) : List AV := (List.range 8).map fun r => AV.bool (f r)
def upF (f : Nat → Bool) (k : Nat) : Nat → List Int
  | 0 => []
  | d + 1 => (if f k = true then [(k : Int)] else []) ++ upF f (k + 1) d
def readsL (i : InsM) : List Int := upF (readB i) 0 8
@[simp] theorem bools_length (f : Nat → Bool) : (bools f).length = 8 := by simp [bools]
theorem bools_get (f : Nat → Bool) (k : Nat) (h : k < 8) : (bools f)[k]? = some (.bool (f k)) := by simp [bools, h]
theorem bools_set (f : Nat → Bool) (D : Nat) (h : D < 8) : (bools f).set D (.bool true) = bools (fun r => f r || decide (r = D)) := by
  apply List.ext_getElem?
  intro k
  rw [List.getElem?_set]
  by_cases hk : k < 8
  · rw [bools_get _ k hk, bools_get _ k hk, bools_length]
    by_cases e : D = k
    · subst e; simp [h]
    · have : ¬ k = D := fun q => e q.symm
      simp [e, this]
  · have : D ≠ k := by omega
    rw [if_neg this, List.getElem?_eq_none (by simp; omega), List.getElem?_eq_none (by simp; omega)]
theorem bools_congr {f g : Nat → Bool} (h : ∀ r, r < 8 → f r = g r) : bools f = bools g := by
  unfold bools
  apply List.map_congr_left
  intro r hr
  rw [h r (by simpa using hr)]
@[simp] theorem bools_all (f : Nat → Bool) : (bools f).all AV.isCell = true := by simp [bools, List.all_map]
@[simp] theorem bools_flat (f : Nat → Bool) : (bools f).all AV.flat = true := by simp [bools, List.all_map]
theorem bools_zero : [AV.bool false, .bool false, .bool false, .bool false, .bool false, .bool false, .bool false, .bool false] = bools (fun _ => false) := rfl
theorem reads_loop (f : Nat → Bool) (ab : Nat) : ∀ (d k : Nat) (ls : List Int) (c : Nat) (X : AHeap), k + d = 8 → ls.length ≤ k → X.WF → X.get ab = some ⟨T.ty_8_bool, 8, true, [bools f]⟩ → X.get c = some ⟨T.ty_int, 1, true, ints ls⟩ → ab ≠ c →
    ∃ (fr' : AFr) (X' : AHeap) (c' : Nat), aloop (ref02_Reads.l0 ref02_Can.spec) (AFr.al [(3, .ptr ab 8 0 0), (4, .sl c 1 0 ls.length), (6, .int .i64 k)]) X = some (.exit 0, fr', X') ∧ fr' 4 = .sl c' 1 0 (ls ++ upF f k d).length ∧ X'.get c' = some ⟨T.ty_int, 1, true, ints (ls ++ upF f k d)⟩ := by
  intro d
  induction d with
  | zero =>
    intro k ls c X h hl hw ha hc hne
    obtain rfl : k = 8 := by omega
    refine ⟨_, _, c, aloop_exit (by simp) (by simp -implicitDefEqProofs +contextual (disch := omega) [ref02_Reads.l0]; exact ⟨rfl, rfl⟩), ?_, ?_⟩
    · simp [upF]
    · simpa [upF] using hc
  | succ d ih =>
    intro k ls c X h hl hw ha hc hne
    have hk : k < 8 := by omega
    have hb := bools_get f k hk
    have hab := hw _ _ ha
    have hcb := hw _ _ hc
    have hk' : (k : Int) < 8 := by omega
    cases hf : f k with
    | false =>
      rw [hf] at hb
      obtain ⟨fr', X', c', p1, p2, p3⟩ := ih (k + 1) ls c X (by omega) (by omega) hw ha hc hne
      refine ⟨fr', X', c', (aloop_step ?_).trans p1, by simpa [upF, hf] using p2, by simpa [upF, hf] using p3⟩
      simp -implicitDefEqProofs +contextual (disch := omega) [ref02_Reads.l0, ha, hb, hk']
    | true =>
      rw [hf] at hb
      have st : ∃ X1 : AHeap, ref02_Reads.l0 ref02_Can.spec (AFr.al [(3, .ptr ab 8 0 0), (4, .sl c 1 0 ls.length), (6, .int .i64 k)]) X = some (.normal, AFr.al [(3, .ptr ab 8 0 0), (4, .sl (X.next + 1) 1 0 (ls ++ [(k : Int)]).length), (6, .int .i64 (k + 1 : Nat))], X1) ∧ X1.WF ∧ X1.get ab = some ⟨T.ty_8_bool, 8, true, [bools f]⟩ ∧ X1.get (X.next + 1) = some ⟨T.ty_int, 1, true, ints (ls ++ [(k : Int)])⟩ := by
        refine ⟨?_, ?_, ?_, ?_, ?_⟩
        rotate_left
        · simp -implicitDefEqProofs +contextual (disch := try first | omega | assumption) [ref02_Reads.l0, ha, hb, hc, hk', ints_snoc]
          rfl
        · (repeat' (first | assumption | with_reducible apply AHeap.WF.push | with_reducible apply AHeap.WF.set)) <;> (simp <;> omega)
        · simp (disch := omega) [ha, hne]
        · simp (disch := omega) [ints]
      obtain ⟨X1, s1, s2, s3, s4⟩ := st
      obtain ⟨fr', X', c', p1, p2, p3⟩ := ih (k + 1) (ls ++ [(k : Int)]) (X.next + 1) X1 (by omega) (by simp; omega) s2 s3 s4 (by omega)
      exact ⟨fr', X', c', (aloop_step s1).trans p1, by simpa [upF, hf] using p2, by simpa [upF, hf] using p3⟩
section
variable (i : InsM) (hc : i.can = true) (a b c : AV) (x : List (Nat × AV)) (H : AHeap) (hg : H.get 0 = some ⟨T.ty_api_Ins, 5, true, [[.int .i64 i.op, .int .i64 i.d, .int .i64 i.n, .int .i64 i.m, .int .i64 i.imm]]⟩)
include hc hg
theorem rd5 : ref02_Reads.r5 (AFr.al ((1, .ptr 0 5 0 0) :: (3, a) :: (4, b) :: (5, .int .i64 i.op) :: x)) H = some (.normal, AFr.al [(1, .ptr 0 5 0 0), (3, a), (4, b), (5, .int .i64 i.op), (42, .bool (rdD i))], H) := by
  obtain ⟨op, d, n, m, imm⟩ := i
  have h1 := ((can_iff _).1 hc).1
  dsimp only at h1 hg ⊢
  obtain ⟨k, rfl⟩ : ∃ k : Nat, op = k := ⟨op.toNat, by omega⟩
  have hk : k = 0 ∨ k = 1 ∨ k = 2 ∨ k = 3 ∨ k = 4 ∨ k = 5 ∨ k = 6 ∨ k = 7 ∨ k = 8 ∨ k = 9 ∨ k = 10 ∨ k = 11 ∨ k = 12 ∨ k = 13 ∨ k = 14 ∨ k = 15 ∨ k = 16 ∨ k = 17 ∨ k = 18 ∨ k = 19 ∨ k = 20 := by omega
  rcases hk with rfl | rfl | rfl | rfl | rfl | rfl | rfl | rfl | rfl | rfl | rfl | rfl | rfl | rfl | rfl | rfl | rfl | rfl | rfl | rfl | rfl
  case inr.inr.inr.inr.inr.inr.inr.inr.inr.inr.inr.inl =>
    by_cases h9 : imm = 9
    · simp -implicitDefEqProofs +contextual (disch := omega) [ref02_Reads.r5, hg, rdD, h9]
    · by_cases h15 : imm = 15
      · simp -implicitDefEqProofs +contextual (disch := omega) [ref02_Reads.r5, hg, rdD, h15]
      · simp -implicitDefEqProofs +contextual (disch := omega) [ref02_Reads.r5, hg, rdD, h9, h15]
  all_goals simp -implicitDefEqProofs +contextual (disch := omega) [ref02_Reads.r5, hg, rdD]
omit hg in
theorem rd7 : ref02_Reads.r7 (AFr.al ((1, .ptr 0 5 0 0) :: (3, a) :: (4, b) :: (5, .int .i64 i.op) :: x)) H = some (.normal, AFr.al [(1, .ptr 0 5 0 0), (3, a), (4, b), (5, .int .i64 i.op), (59, .bool (rdN i))], H) := by
  obtain ⟨op, d, n, m, imm⟩ := i
  have h1 := ((can_iff _).1 hc).1
  dsimp only at h1 ⊢
  obtain ⟨k, rfl⟩ : ∃ k : Nat, op = k := ⟨op.toNat, by omega⟩
  have hk : k = 0 ∨ k = 1 ∨ k = 2 ∨ k = 3 ∨ k = 4 ∨ k = 5 ∨ k = 6 ∨ k = 7 ∨ k = 8 ∨ k = 9 ∨ k = 10 ∨ k = 11 ∨ k = 12 ∨ k = 13 ∨ k = 14 ∨ k = 15 ∨ k = 16 ∨ k = 17 ∨ k = 18 ∨ k = 19 ∨ k = 20 := by omega
  rcases hk with rfl | rfl | rfl | rfl | rfl | rfl | rfl | rfl | rfl | rfl | rfl | rfl | rfl | rfl | rfl | rfl | rfl | rfl | rfl | rfl | rfl
  all_goals simp -implicitDefEqProofs +contextual (disch := omega) [ref02_Reads.r7, rdN]
omit hg in
theorem rd9 : ref02_Reads.r9 (AFr.al ((1, .ptr 0 5 0 0) :: (3, a) :: (4, b) :: (5, .int .i64 i.op) :: x)) H = some (.normal, AFr.al [(1, .ptr 0 5 0 0), (3, a), (4, b), (80, .bool (rdM i))], H) := by
  obtain ⟨op, d, n, m, imm⟩ := i
  have h1 := ((can_iff _).1 hc).1
  dsimp only at h1 ⊢
  obtain ⟨k, rfl⟩ : ∃ k : Nat, op = k := ⟨op.toNat, by omega⟩
  have hk : k = 0 ∨ k = 1 ∨ k = 2 ∨ k = 3 ∨ k = 4 ∨ k = 5 ∨ k = 6 ∨ k = 7 ∨ k = 8 ∨ k = 9 ∨ k = 10 ∨ k = 11 ∨ k = 12 ∨ k = 13 ∨ k = 14 ∨ k = 15 ∨ k = 16 ∨ k = 17 ∨ k = 18 ∨ k = 19 ∨ k = 20 := by omega
  rcases hk with rfl | rfl | rfl | rfl | rfl | rfl | rfl | rfl | rfl | rfl | rfl | rfl | rfl | rfl | rfl | rfl | rfl | rfl | rfl | rfl | rfl
  all_goals simp -implicitDefEqProofs +contextual (disch := omega) [ref02_Reads.r9, rdM]
end
theorem upF_no (f : Nat → Bool) (h : ∀ r, f r = false) : ∀ d k, upF f k d = []
  | 0, _ => rfl
  | d + 1, k => by simp [upF, h k, upF_no f h d (k + 1)]
theorem reads_of {f : Nat → Bool} {X : AHeap} {r} (hr : aloop (ref02_Reads.l0 ref02_Can.spec) (AFr.al [(3, .ptr 2 8 0 0), (4, .sl 1 1 0 0), (6, .int .i64 0)]) X = r) (hw : X.WF) (g2 : X.get 2 = some ⟨T.ty_8_bool, 8, true, [bools f]⟩) (g1 : X.get 1 = some ⟨T.ty_int, 1, true, []⟩) :
    ∃ (fr' : AFr) (X' : AHeap) (c' : Nat), r = some (.exit 0, fr', X') ∧ fr' 4 = .sl c' 1 0 (upF f 0 8).length ∧ X'.get c' = some ⟨T.ty_int, 1, true, ints (upF f 0 8)⟩ := by
  obtain ⟨fr', X', c', p1, p2, p3⟩ := reads_loop f 2 8 0 [] 1 X (by omega) (by simp) hw g2 g1 (by omega)
  exact ⟨fr', X', c', hr.symm.trans p1, p2, p3⟩
set_option maxHeartbeats 4000000 in
theorem rReads_eq (i : InsM) : ref02_Reads.spec [InsAV i] = some (.rsl 1 (ints (readsL i))) := by
  have hCan := rCan_eq i
  by_cases hc : i.can = true
  · have q5 := fun a b x H hg => rd5 i hc a b x H hg
    have q7 := fun a b x => rd7 i hc a b x
    have q9 := fun a b x => rd9 i hc a b x
    have hset : ∀ f g : Nat → Bool, setCells (bools f) 0 (bools g) = bools g := fun f g => setCells_full _ _ (by simp)
    obtain ⟨k, D, N, M, he, h1, h2, h3, h4, h5, h6⟩ := can_parts i hc
    generalize hI : i.imm = imm at *
    have eop : i.op = k := by rw [he]
    have ed : i.d = D := by rw [he]
    have en : i.n = N := by rw [he]
    have em : i.m = M := by rw [he]
    have hD : rdD i = true → D < 8 := fun q => h2 (fun e => by subst e; rw [he] at q; simp [rdD] at q)
    have hrb : ∀ r, readB i r = (rdD i && decide (D = r) || rdN i && decide (N = r) || rdM i && decide (M = r)) := fun r => by
      have e1 : decide (i.d = (r : Int)) = decide (D = r) := by rw [ed, decide_eq_decide]; omega
      have e2 : decide (i.n = (r : Int)) = decide (N = r) := by rw [en, decide_eq_decide]; omega
      have e3 : decide (i.m = (r : Int)) = decide (M = r) := by rw [em, decide_eq_decide]; omega
      simp only [readB, hc, Bool.true_and, e1, e2, e3]
    rw [hc] at hCan
    simp only [InsAV, hI] at hCan ⊢
    rw [ed, en, em] at hCan q5 ⊢
    unfold readsL
    generalize readB i = rb at *
    generalize rdD i = bD at *
    generalize rdN i = bN at *
    generalize rdM i = bM at *
    have eD : ((D : Nat) : Int).toNat = D := Int.toNat_natCast D
    cases bD <;> cases bN <;> cases bM
    all_goals
      try replace hD := hD rfl
      simp -implicitDefEqProofs +contextual (disch := try first | omega | (simp; done)) [ref02_Reads.spec, ref02_Reads, -ref02_Reads.r5, -ref02_Reads.r7, -ref02_Reads.r9, hCan, q5, q7, q9, bools_zero, bools_set, hset]
    all_goals
      generalize hr : aloop _ _ _ = r
      obtain ⟨fr', X', c', rfl, q2, q3⟩ := reads_of (f := rb) hr (by (repeat' (first | assumption | exact AHeap.WF.empty | with_reducible apply AHeap.WF.push | with_reducible apply AHeap.WF.set)) <;> (simp <;> omega))
        (by
          simp
          refine bools_congr fun r _ => ?_
          rw [hrb r]
          have d1 : decide (r = D) = decide (D = r) := by rw [decide_eq_decide]; omega
          have d2 : decide (r = N) = decide (N = r) := by rw [decide_eq_decide]; omega
          have d3 : decide (r = M) = decide (M = r) := by rw [decide_eq_decide]; omega
          simp [d1, d2, d3]) (by simp)
      simp -implicitDefEqProofs +contextual (disch := omega) [q2, q3]
  · have hz : readsL i = [] := upF_no _ (fun r => by simp [readB, hc]) 8 0
    rw [hz]
    rw [Bool.not_eq_true] at hc
    rw [hc] at hCan
    simp only [InsAV] at hCan ⊢
    simp -implicitDefEqProofs +contextual (disch := omega) [ref02_Reads.spec, ref02_Reads, hCan, ints]
end Go.Abs
