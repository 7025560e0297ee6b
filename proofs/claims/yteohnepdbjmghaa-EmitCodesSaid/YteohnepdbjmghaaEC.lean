import Derived.Test.YteohnepdbjmghaaE1
import Derived.Test.YteohnepdbjmghaaEmF
import Derived.Test.YteohnepdbjmghaaT1
import Derived.Test.YteohnepdbjmghaaJA
section
set_option linter.unusedSimpArgs false
set_option linter.unusedVariables false
namespace Go.Abs
open Th
def insRow (i : InsM) : List AV := [.int .i64 i.op, .int .i64 i.d, .int .i64 i.n, .int .i64 i.m, .int .i64 i.imm]
def insRows (l : List InsM) : List (List AV) := l.map insRow
@[simp] theorem insRows_length (l : List InsM) : (insRows l).length = l.length := by simp [insRows]
theorem insRows_append (a b : List InsM) : insRows a ++ insRows b = insRows (a ++ b) := by simp [insRows]
theorem insRows_get (l : List InsM) (k : Nat) (h : k < l.length) : (insRows l)[k]? = some (insRow l[k]) := by simp [insRows, h]
theorem insRows_all (l : List InsM) : (insRows l).take l.length = insRows l := List.take_of_length_le (by simp)
def mvI (d n : Int) : InsM := ⟨0, d, 0, 0, n⟩
def lfI (d n : Int) : InsM := ⟨4, d, 0, d, n⟩
def adI (d n : Int) : InsM := ⟨2, d, 0, 0, n⟩
def alI (op d m : Int) : InsM := ⟨11, d, 0, m, op⟩
theorem mov_eq (d n : Int) : emit_mov.spec [.int .i64 d, .int .i64 n] = some (.agg [.int .i64 0, .int .i64 d, .int .i64 0, .int .i64 0, .int .i64 n]) := by simp -implicitDefEqProofs +contextual (disch := omega) [emit_mov.spec, emit_mov]
theorem left_eq (d n : Int) : emit_left.spec [.int .i64 d, .int .i64 n] = some (.agg [.int .i64 4, .int .i64 d, .int .i64 0, .int .i64 d, .int .i64 n]) := by simp -implicitDefEqProofs +contextual (disch := omega) [emit_left.spec, emit_left]
theorem eadd_eq (d n : Int) : emit_add.spec [.int .i64 d, .int .i64 n] = some (.agg [.int .i64 2, .int .i64 d, .int .i64 0, .int .i64 0, .int .i64 n]) := by simp -implicitDefEqProofs +contextual (disch := omega) [emit_add.spec, emit_add]
theorem ealu_eq (op d m : Int) : emit_alu.spec [.int .i64 op, .int .i64 d, .int .i64 m] = some (.agg [.int .i64 11, .int .i64 d, .int .i64 0, .int .i64 m, .int .i64 op]) := by simp -implicitDefEqProofs +contextual (disch := omega) [emit_alu.spec, emit_alu]
def atI (n : Nat) : List InsM := if 4 * n < 256 then [mvI 6 (4 * n : Nat)] else [mvI 6 (4 * n / 256 : Nat), lfI 6 8, adI 6 (4 * n % 256 : Nat)]
theorem atI_len (n : Nat) : 1 ≤ (atI n).length ∧ (atI n).length ≤ 3 := by unfold atI; split <;> simp
theorem at_ref_eq (n : Nat) (h : n ≤ 16000) (H : AHeap) : emit_at_ref.spec [.int .i64 n] H = some (.sl H.next 5 0 (atI n).length, H.push ⟨T.ty_api_Ins, 5, true, insRows (atI n)⟩) := by
  unfold atI
  have h4 : (n : Int) * 4 = ((4 * n : Nat) : Int) := by omega
  generalize hm : 4 * n = m at *
  by_cases hs : m < 256
  · rw [if_pos hs]
    have hs' : (m : Int) < 256 := by omega
    simp -implicitDefEqProofs +contextual (disch := omega) [emit_at_ref.spec, emit_at_ref, h4, hs', mov_eq, insRows, insRow, mvI]
  · rw [if_neg hs]
    have hs' : ¬ (m : Int) < 256 := by omega
    have hd : ((m / 256 : Nat) : Int) = (m : Int) / 256 := by omega
    have hr : ((m % 256 : Nat) : Int) = (m : Int) % 256 := by omega
    simp -implicitDefEqProofs +contextual (disch := omega) [emit_at_ref.spec, emit_at_ref, h4, hs', mov_eq, left_eq, eadd_eq, insRows, insRow, mvI, lfI, adI, hd, hr]
def getI (r : Int) (n : Nat) : List InsM := atI n ++ [⟨14, r, 7, 6, 0⟩]
def putI (n : Nat) : List InsM := atI n ++ [⟨15, 0, 7, 6, 0⟩]
theorem get_eq (r : Int) (n : Nat) (h : n ≤ 16000) : emit_get.spec [.int .i64 r, .int .i64 n] = some (.rsl 5 (insRows (getI r n))) := by
  have hA := at_ref_eq n h
  obtain ⟨l1, l3⟩ := atI_len n
  have ht : (insRows (atI n) ++ [[AV.int .i64 14, .int .i64 r, .int .i64 7, .int .i64 6, .int .i64 0]]).take ((atI n).length + 1) = insRows (atI n) ++ [[AV.int .i64 14, .int .i64 r, .int .i64 7, .int .i64 6, .int .i64 0]] := List.take_of_length_le (by simp)
  have he : insRows (getI r n) = insRows (atI n) ++ [[AV.int .i64 14, .int .i64 r, .int .i64 7, .int .i64 6, .int .i64 0]] := by simp [getI, insRows, insRow]
  rw [he]
  generalize atI n = l at *
  simp -implicitDefEqProofs +contextual (disch := omega) [emit_get.spec, emit_get, hA, ht]
theorem eput_eq (n : Nat) (h : n ≤ 16000) : emit_put.spec [.int .i64 n] = some (.rsl 5 (insRows (putI n))) := by
  have hA := at_ref_eq n h
  obtain ⟨l1, l3⟩ := atI_len n
  have ht : (insRows (atI n) ++ [[AV.int .i64 15, .int .i64 0, .int .i64 7, .int .i64 6, .int .i64 0]]).take ((atI n).length + 1) = insRows (atI n) ++ [[AV.int .i64 15, .int .i64 0, .int .i64 7, .int .i64 6, .int .i64 0]] := List.take_of_length_le (by simp)
  have he : insRows (putI n) = insRows (atI n) ++ [[AV.int .i64 15, .int .i64 0, .int .i64 7, .int .i64 6, .int .i64 0]] := by simp [putI, insRows, insRow]
  rw [he]
  generalize atI n = l at *
  simp -implicitDefEqProofs +contextual (disch := omega) [emit_put.spec, emit_put, hA, ht]
def beginI : List InsM := [mvI 7 32, lfI 7 24, mvI 5 64, lfI 5 24]
theorem begin_eq : emit_Begin.spec [] = some (.rsl 5 (insRows beginI)) := by
  simp -implicitDefEqProofs +contextual (disch := omega) [emit_Begin.spec, emit_Begin, mov_eq, left_eq, beginI, insRows, insRow, mvI, lfI]
theorem slot_eq (n : Int) : emit_slot.spec [.int .i64 n] = some (.bool (decide (0 ≤ n) && decide (n ≤ 16000))) := by
  by_cases h : 0 ≤ n
  · by_cases h2 : n ≤ 16000 <;> simp -implicitDefEqProofs +contextual (disch := omega) [emit_slot.spec, emit_slot, h, h2]
  · simp -implicitDefEqProofs +contextual (disch := omega) [emit_slot.spec, emit_slot, h]
end Go.Abs
end
section
set_option linter.unusedSimpArgs false
set_option linter.unusedVariables false
namespace Go.Abs
open Th
def byteI (v : BitVec 32) (j : Nat) : Nat := ((v >>> (24 - 8 * j)) &&& 255#32).toNat
def constUp (v : BitVec 32) : Nat → List InsM
  | 0 => []
  | j + 1 => if constUp v j ≠ [] then constUp v j ++ [lfI 0 8, adI 0 (byteI v j)] else if 0 < byteI v j ∨ j = 3 then [mvI 0 (byteI v j)] else []
def constI (v : BitVec 32) : List InsM := constUp v 4
theorem constUp_len (v : BitVec 32) : ∀ j, (constUp v j).length ≤ 2 * j
  | 0 => by simp [constUp]
  | j + 1 => by
    have := constUp_len v j
    unfold constUp
    repeat' split
    all_goals simp; try omega
def InsUp (H : AHeap) (v : AV) (l : List InsM) : Prop := (l = [] ∧ v = .nils) ∨ (l ≠ [] ∧ ∃ ob, v = .sl ob 5 0 l.length ∧ H.get ob = some ⟨T.ty_api_Ins, 5, true, insRows l⟩)
noncomputable abbrev csL := emit_constant.l0 emit_left.spec emit_add.spec emit_mov.spec
theorem const_loop (v : BitVec 32) (H : AHeap) (hw : H.WF) {r} (hr : aloop csL (AFr.al [(0, W32 v), (3, .nils), (4, .int .i64 24)]) H = r) :
    ∃ e fr' H', r = some (e, fr', H') ∧ (e = .exit 0 ∧ ∃ v3 y, fr' = AFr.al ([(0, W32 v), (3, v3)] ++ y) ∧ InsUp H' v3 (constI v)) := by
  refine run_of hr (aloop_each 4 (fun j fr H => H.WF ∧ ∃ v3 y, fr = AFr.al ([(0, W32 v), (3, v3), (4, .int .i64 (24 - 8 * j : Int))] ++ y) ∧ InsUp H v3 (constUp v j)) _ (fun j hj fr H hR => ?_) (fun fr H hR => ?_) ⟨hw, .nils, [], rfl, .inl ⟨rfl, rfl⟩⟩)
  · obtain ⟨hw, v3, y, rfl, hR⟩ := hR
    have hk : (0 : Int) ≤ 24 - 8 * j := by omega
    have hk2 : (24 - 8 * (j : Int)).toNat = 24 - 8 * j := by omega
    have hj1 : (24 - 8 * ((j + 1 : Nat) : Int)) = 24 - 8 * (j : Int) - 8 := by omega
    have hbl : byteI v j ≤ 255 := by
      unfold byteI
      rw [BitVec.toNat_and]
      exact Nat.and_le_right
    have hstep : constUp v (j + 1) = if constUp v j ≠ [] then constUp v j ++ [lfI 0 8, adI 0 (byteI v j)] else if 0 < byteI v j ∨ j = 3 then [mvI 0 (byteI v j)] else [] := rfl
    have hll := constUp_len v j
    rw [hstep, hj1]
    generalize constUp v j = l at *
    have hbyte : ((v >>> (24 - 8 * j)) &&& 255#32).toNat = byteI v j := rfl
    generalize byteI v j = b at *
    rcases hR with ⟨rfl, rfl⟩ | ⟨hne, ob, rfl, hb⟩
    · rw [if_neg (by simp)]
      by_cases hp : 0 < b
      · rw [if_pos (.inl hp)]
        have hp' : (0 : Int) < b := by omega
        refine ⟨_, _, _, by simp -implicitDefEqProofs +contextual (disch := omega) [emit_constant.l0, hk, hk2, hbyte, hp', mov_eq]; first | rfl | exact ⟨rfl, rfl⟩ | exact ⟨rfl, rfl, rfl⟩, .inl ⟨rfl, ?_, _, _, rfl, .inr ⟨by simp, _, rfl, ?_⟩⟩⟩
        · (repeat' (first | assumption | with_reducible apply AHeap.WF.push | with_reducible apply AHeap.WF.set | with_reducible apply killAll_wf | exact AHeap.WF.empty)) <;> (simp <;> omega)
        · simp [insRows, insRow, mvI]
      · obtain rfl : b = 0 := by omega
        by_cases h3 : j = 3
        · subst h3
          rw [if_pos (.inr rfl)]
          have hb3 : v.toNat &&& 255 = 0 := by simpa using hbyte
          refine ⟨_, _, _, by simp -implicitDefEqProofs +contextual (disch := omega) [emit_constant.l0, hb3, mov_eq]; first | rfl | exact ⟨rfl, rfl⟩ | exact ⟨rfl, rfl, rfl⟩, .inl ⟨rfl, ?_, _, _, rfl, .inr ⟨by simp, _, rfl, ?_⟩⟩⟩
          · (repeat' (first | assumption | with_reducible apply AHeap.WF.push | with_reducible apply AHeap.WF.set | with_reducible apply killAll_wf | exact AHeap.WF.empty)) <;> (simp <;> omega)
          · simp [insRows, insRow, mvI]
        · rw [if_neg (by omega)]
          have hne : ¬ (24 - 8 * (j : Int)) = 0 := by omega
          refine ⟨_, _, _, by simp -implicitDefEqProofs +contextual (disch := omega) [emit_constant.l0, hk, hk2, hbyte, hne, mov_eq]; first | rfl | exact ⟨rfl, rfl⟩ | exact ⟨rfl, rfl, rfl⟩, .inl ⟨rfl, hw, _, _, rfl, .inl ⟨rfl, rfl⟩⟩⟩
    · rw [if_pos hne]
      have hob := hw _ _ hb
      have hpos : 0 < l.length := List.length_pos_iff.2 hne
      have hpos' : (0 : Int) < l.length := by omega
      refine ⟨_, _, _, by simp -implicitDefEqProofs +contextual (disch := omega) [emit_constant.l0, hk, hk2, hbyte, left_eq, eadd_eq, hb, hpos']; first | rfl | exact ⟨rfl, rfl⟩ | exact ⟨rfl, rfl, rfl⟩, .inl ⟨rfl, ?_, _, _, rfl, .inr ⟨by simp, _, by rw [List.length_append]; rfl, ?_⟩⟩⟩
      · (repeat' (first | assumption | with_reducible apply AHeap.WF.push | with_reducible apply AHeap.WF.set | with_reducible apply killAll_wf | exact AHeap.WF.empty)) <;> (simp <;> omega)
      · simp [insRows, insRow, lfI, adI]
  · obtain ⟨hw, v3, y, rfl, hR⟩ := hR
    refine ⟨_, _, _, by simp -implicitDefEqProofs +contextual (disch := omega) [emit_constant.l0]; first | rfl | exact ⟨rfl, rfl⟩ | exact ⟨rfl, rfl, rfl⟩, by simp, rfl, _, _, rfl, hR⟩
theorem const_eq (v : BitVec 32) : emit_constant.spec [W32 v] = some (.rsl 5 (insRows (constI v))) := by
  simp -implicitDefEqProofs +contextual (disch := omega) [emit_constant.spec, emit_constant]
  generalize hr : aloop _ _ _ = r
  obtain ⟨e, fr, X, rfl, rfl, v3, y, rfl, hR⟩ := const_loop v _ AHeap.WF.empty hr
  have hl := constUp_len v 4
  unfold constI at *
  generalize constUp v 4 = l at *
  rcases hR with ⟨rfl, rfl⟩ | ⟨hne, ob, rfl, hb⟩
  · simp -implicitDefEqProofs +contextual (disch := omega) [insRows]
  · have ht := insRows_all l
    simp -implicitDefEqProofs +contextual (disch := omega) [hb, ht]
end Go.Abs
end
section
set_option linter.unusedSimpArgs false
set_option linter.unusedVariables false
namespace Go.Abs
open Th
def doesI (o : OpM) : List InsM :=
  if o.k = 1 then [alI 0 0 1] else if o.k = 2 then [alI 1 0 1] else if o.k = 3 then [alI 15 0 0] else if o.k = 4 then [lfI 0 o.n.toNat]
  else if o.k = 5 then (if o.n = 0#32 then [lfI 0 0] else [⟨5, 0, 0, 0, o.n.toNat⟩]) else if o.k = 6 then [mvI 2 ((32#32 - o.n) % 32#32).toNat, alI 7 0 2]
  else if o.k = 7 then constI o.n else if o.k = 0 then [⟨12, 0, 5, 0, 0⟩] else []
theorem does_eq (o : OpM) : emit_does.spec [.agg o.cells] = some (.rsl 5 (insRows (doesI o))) := by
  have hc := const_eq o.n
  obtain ⟨k, a, b, n⟩ := o
  unfold OpM.cells doesI
  dsimp only at *
  by_cases h1 : k = 1
  · subst h1; simp -implicitDefEqProofs +contextual (disch := omega) [emit_does.spec, emit_does, ealu_eq, insRows, insRow, alI]
  rw [if_neg h1]
  by_cases h2 : k = 2
  · subst h2; simp -implicitDefEqProofs +contextual (disch := omega) [emit_does.spec, emit_does, ealu_eq, insRows, insRow, alI]
  rw [if_neg h2]
  by_cases h3 : k = 3
  · subst h3; simp -implicitDefEqProofs +contextual (disch := omega) [emit_does.spec, emit_does, ealu_eq, insRows, insRow, alI]
  rw [if_neg h3]
  by_cases h4 : k = 4
  · subst h4; simp -implicitDefEqProofs +contextual (disch := omega) [emit_does.spec, emit_does, left_eq, insRows, insRow, lfI]
  rw [if_neg h4]
  by_cases h5 : k = 5
  · subst h5
    by_cases hn : n = 0#32
    · subst hn; simp -implicitDefEqProofs +contextual (disch := omega) [emit_does.spec, emit_does, left_eq, insRows, insRow, lfI]
    · simp -implicitDefEqProofs +contextual (disch := omega) [emit_does.spec, emit_does, left_eq, insRows, insRow, hn]
  rw [if_neg h5]
  by_cases h6 : k = 6
  · subst h6
    generalize hm : (32#32 - n) % 32#32 = m
    simp -implicitDefEqProofs +contextual (disch := omega) [emit_does.spec, emit_does, mov_eq, ealu_eq, insRows, insRow, alI, mvI, hm]
  rw [if_neg h6]
  by_cases h7 : k = 7
  · subst h7
    rw [if_pos rfl]
    generalize constI n = l at *
    simp -implicitDefEqProofs +contextual (disch := omega) [emit_does.spec, emit_does, hc]
  rw [if_neg h7]
  by_cases h0 : k = 0
  · subst h0; simp -implicitDefEqProofs +contextual (disch := omega) [emit_does.spec, emit_does, insRows, insRow]
  rw [if_neg h0]
  simp -implicitDefEqProofs +contextual (disch := omega) [emit_does.spec, emit_does, insRows, h1, h2, h3, h4, h5, h6, h7, h0]
@[simp] theorem slice_nils_to (n : Nat) (k : IntKind) : asliceR (.sl n) .nils none (some (.int k 0)) none = some .nils := rfl
theorem Grow_eq (n : Nat) (h0 : 0 < n) (h : n ≤ 1000000) (H : AHeap) : slices_Grow_bauta_api_Ins.spec [.nils, .int .i64 n] H = some (.sl H.next 5 0 0, H.push ⟨T.ty_api_Ins, 5, true, []⟩) := by
  have h1 : ¬ (n : Int) < 0 := by omega
  have h2 : (0 : Int) < n := by omega
  simp -implicitDefEqProofs +contextual (disch := omega) [slices_Grow_bauta_api_Ins.spec, slices_Grow_bauta_api_Ins, h1, h2]
theorem Concat_eq (a b c : List InsM) (ha : 1 ≤ a.length) (hl : a.length + b.length + c.length ≤ 1000) (H : AHeap) (hw : H.WF) (ab sb : Nat) (hab : H.get ab = some ⟨T.ty_api_Ins, 5, true, insRows a⟩) (hsb : H.get sb = some ⟨T.ty_sl_api_Ins, 1, false, [[.sl ab 5 0 a.length], [.rsl 5 (insRows b)], [.rsl 5 (insRows c)]]⟩) :
    ∃ v H', slices_Concat_bauta_api_Ins.spec [.sl sb 1 0 3] H = some (v, H') ∧ ∃ ob, v = .sl ob 5 0 (a ++ b ++ c).length ∧ H'.get ob = some ⟨T.ty_api_Ins, 5, true, insRows (a ++ b ++ c)⟩ := by
  have hs1 : ¬ ((a.length : Int)) < 0 := by omega
  have hab' := hw _ _ hab
  have hsb' := hw _ _ hsb
  have hG := fun H => Grow_eq (a.length + b.length + c.length) (by omega) (by omega) H
  have hsum : ((a.length + b.length + c.length : Nat) : Int) = (a.length : Int) + b.length + c.length := by omega
  rw [hsum] at hG
  have hne : ¬ ab = sb := by intro e; subst e; rw [hab] at hsb; simp at hsb
  have hne' : ¬ sb = ab := fun e => hne e.symm
  have ta := insRows_all a
  have tb := insRows_all b
  have tc := insRows_all c
  refine ⟨_, _, by simp -implicitDefEqProofs +contextual (disch := omega) [slices_Concat_bauta_api_Ins.spec, slices_Concat_bauta_api_Ins, aloop_unroll, slices_Concat_bauta_api_Ins.l0, slices_Concat_bauta_api_Ins.l1, hsb, hab, hG, hne, hne', ta, tb, tc]; exact ⟨rfl, rfl⟩, _, by rw [List.length_append, List.length_append], ?_⟩
  simp [← insRows_append]
def regsI : List Nat → Int → List InsM
  | [], _ => []
  | x :: l, r => getI r x ++ regsI l (r + 1)
def headI (src : List Nat) : List InsM := mvI 0 0 :: (if 1 < src.length then [mvI 1 0] else [])
def stepI (o : OpM) (dst : Nat) (src : List Nat) : List InsM := headI src ++ regsI src 0 ++ doesI o ++ putI dst
theorem getI_len (r : Int) (n : Nat) : (getI r n).length ≤ 4 := by have := (atI_len n).2; simp [getI]; omega
theorem putI_len (n : Nat) : (putI n).length ≤ 4 := by have := (atI_len n).2; simp [putI]; omega
theorem doesI_len (o : OpM) : (doesI o).length ≤ 8 := by
  have := constUp_len o.n 4
  unfold doesI
  repeat' split
  all_goals first | (simp; done) | (unfold constI; omega)
theorem concat_of {sb : Nat} {H : AHeap} {r : Option (AV × AHeap)} (hr : slices_Concat_bauta_api_Ins.spec [.sl sb 1 0 3] H = r) (a b c : List InsM) (ha : 1 ≤ a.length) (hl : a.length + b.length + c.length ≤ 1000) (hw : H.WF) (ab : Nat) (hab : H.get ab = some ⟨T.ty_api_Ins, 5, true, insRows a⟩) (hsb : H.get sb = some ⟨T.ty_sl_api_Ins, 1, false, [[.sl ab 5 0 a.length], [.rsl 5 (insRows b)], [.rsl 5 (insRows c)]]⟩) :
    ∃ ob H', r = some (.sl ob 5 0 (a ++ b ++ c).length, H') ∧ H'.get ob = some ⟨T.ty_api_Ins, 5, true, insRows (a ++ b ++ c)⟩ := by
  subst hr
  obtain ⟨v, H', h, ob, rfl, hg⟩ := Concat_eq a b c ha hl H hw ab sb hab hsb
  exact ⟨ob, H', h, hg⟩
theorem estep_eq (o : OpM) (dst : Nat) (hd : dst ≤ 16000) (src : List Nat) (hs : src.length ≤ 2) (hx : ∀ x ∈ src, x ≤ 16000) :
    emit_step.spec [.agg o.cells, .int .i64 dst, .rsl 1 (ints (src.map fun x : Nat => (x : Int)))] = some (.rsl 5 (insRows (stepI o dst src))) := by
  have hdo := does_eq o
  have hpu := eput_eq dst hd
  have hl1 := doesI_len o
  have hl2 := putI_len dst
  unfold OpM.cells at hdo ⊢
  generalize hD : doesI o = D at *
  generalize hP : putI dst = Q at *
  match src, hs, hx with
  | [], _, _ =>
    have hst : [mvI 0 0] ++ D ++ Q = stepI o dst [] := by simp [stepI, headI, regsI, hD, hP]
    generalize stepI o dst [] = L at *
    simp -implicitDefEqProofs +contextual (disch := omega) [emit_step.spec, emit_step, mov_eq, aloop_unroll, emit_step.l0, ints, hdo, hpu]
    generalize hr : slices_Concat_bauta_api_Ins.spec _ _ = r
    obtain ⟨ob, H', rfl, hg⟩ := concat_of hr [mvI 0 0] D Q (by simp) (by simp; omega) (by (repeat' (first | assumption | with_reducible apply AHeap.WF.push | with_reducible apply AHeap.WF.set | with_reducible apply killAll_wf | exact AHeap.WF.empty)) <;> (simp <;> omega)) 1 (by simp [insRows, insRow, mvI]) (by simp)
    rw [hst] at hg ⊢
    have ht := insRows_all L
    simp -implicitDefEqProofs +contextual (disch := omega) [hg, ht]
  | [x], _, hx =>
    have hg0 := get_eq 0 x (hx x (by simp))
    have hl0 := getI_len 0 x
    have hst : mvI 0 0 :: getI 0 x ++ D ++ Q = stepI o dst [x] := by simp [stepI, headI, regsI, hD, hP]
    generalize stepI o dst [x] = L at *
    generalize getI 0 x = g0 at *
    have t0 := insRows_all g0
    simp -implicitDefEqProofs +contextual (disch := omega) [emit_step.spec, emit_step, mov_eq, aloop_unroll, emit_step.l0, ints, hdo, hpu, hg0, t0]
    generalize hr : slices_Concat_bauta_api_Ins.spec _ _ = r
    obtain ⟨ob, H', rfl, hg⟩ := concat_of hr (mvI 0 0 :: g0) D Q (by simp) (by simp; omega) (by (repeat' (first | assumption | with_reducible apply AHeap.WF.push | with_reducible apply AHeap.WF.set | with_reducible apply killAll_wf | exact AHeap.WF.empty)) <;> (simp <;> omega)) 2 (by simp [insRows, insRow, mvI]) (by simp; omega)
    rw [hst] at hg ⊢
    have ht := insRows_all L
    simp -implicitDefEqProofs +contextual (disch := omega) [hg, ht]
  | [x, y], _, hx =>
    have hg0 := get_eq 0 x (hx x (by simp))
    have hg1 := get_eq 1 y (hx y (by simp))
    have hl0 := getI_len 0 x
    have hl1' := getI_len 1 y
    have hst : mvI 0 0 :: mvI 1 0 :: (getI 0 x ++ getI 1 y) ++ D ++ Q = stepI o dst [x, y] := by simp [stepI, headI, regsI, hD, hP]
    generalize stepI o dst [x, y] = L at *
    generalize getI 0 x = g0 at *
    generalize getI 1 y = g1 at *
    have t0 := insRows_all g0
    have t1 := insRows_all g1
    simp -implicitDefEqProofs +contextual (disch := omega) [emit_step.spec, emit_step, mov_eq, aloop_unroll, emit_step.l0, ints, hdo, hpu, hg0, t0, hg1, t1]
    generalize hr : slices_Concat_bauta_api_Ins.spec _ _ = r
    obtain ⟨ob, H', rfl, hg⟩ := concat_of hr (mvI 0 0 :: mvI 1 0 :: (g0 ++ g1)) D Q (by simp) (by simp; omega) (by (repeat' (first | assumption | with_reducible apply AHeap.WF.push | with_reducible apply AHeap.WF.set | with_reducible apply killAll_wf | exact AHeap.WF.empty)) <;> (simp <;> omega)) 5 (by simp [insRows, insRow, mvI]) (by simp; omega)
    rw [hst] at hg ⊢
    have ht := insRows_all L
    simp -implicitDefEqProofs +contextual (disch := omega) [hg, ht]
end Go.Abs
end
section
set_option linter.unusedSimpArgs false
set_option linter.unusedVariables false
namespace Go.Abs
open Th
def slotOk (n : Int) : Bool := decide (0 ≤ n) && decide (n ≤ 16000)
theorem etakes_eq (k : Int) : emit_takes.spec [.int .i64 k] = some (.int .i64 (if k = 1 ∨ k = 2 then 2 else if k = 0 ∨ k = 7 then 0 else 1)) := by
  by_cases h1 : k = 1
  · subst h1; simp -implicitDefEqProofs +contextual (disch := omega) [emit_takes.spec, emit_takes]
  by_cases h2 : k = 2
  · subst h2; simp -implicitDefEqProofs +contextual (disch := omega) [emit_takes.spec, emit_takes]
  rw [if_neg (by omega)]
  by_cases h0 : k = 0
  · subst h0; simp -implicitDefEqProofs +contextual (disch := omega) [emit_takes.spec, emit_takes]
  by_cases h7 : k = 7
  · subst h7; simp -implicitDefEqProofs +contextual (disch := omega) [emit_takes.spec, emit_takes]
  rw [if_neg (by omega)]
  simp -implicitDefEqProofs +contextual (disch := omega) [emit_takes.spec, emit_takes, h1, h2, h0, h7]
theorem step1_eq (n : Int) : emit_Step_1.spec [.int .i64 n] = some (.bool (!slotOk n)) := by
  have hs := slot_eq n
  unfold slotOk
  generalize (decide (0 ≤ n) && decide (n ≤ 16000)) = b at *
  cases b <;> simp -implicitDefEqProofs +contextual (disch := omega) [emit_Step_1.spec, emit_Step_1, hs]
theorem code1_eq (n : Int) : emit_Code_1.spec [.int .i64 n] = some (.bool (!slotOk n)) := by
  have hs := slot_eq n
  unfold slotOk
  generalize (decide (0 ≤ n) && decide (n ≤ 16000)) = b at *
  cases b <;> simp -implicitDefEqProofs +contextual (disch := omega) [emit_Code_1.spec, emit_Code_1, hs]
theorem sindex_eq (g : FuncId) (s : SpecP) (hC : slices_IndexFunc_int.C emit_Step_1.spec emit_Code_1.spec verify_asked_ready_1.spec g = some (.pure false s)) (hs : ∀ n, s [.int .i64 n] = some (.bool (!slotOk n)))
    (X : AHeap) (hX : X.WF) (l : List Int) (hll : l.length ≤ 1000000000) :
    ∃ i : Int, slices_IndexFunc_int.spec [.rsl 1 (ints l), .clo g [] []] X = some (.int .i64 i, X) ∧ (0 ≤ i ↔ (l.any fun n => !slotOk n) = true) := by
  have hrun : ∃ (i : Int), slices_IndexFunc_int.spec [.rsl 1 (ints l), .clo g [] []] X = forget X (some ([.int .i64 i], X)) ∧ (0 ≤ i ↔ (l.any fun n => !slotOk n) = true) := by
    generalize hA : (l.any fun n => !slotOk n) = A
    simp -implicitDefEqProofs +contextual (disch := omega) [slices_IndexFunc_int.spec, slices_IndexFunc_int]
    generalize hr : aloop _ _ _ = r
    obtain ⟨e, fr', X', rfl, rfl, hq⟩ : ∃ e fr' X', r = some (e, fr', X') ∧ (X' = X ∧ ((e = .exit 0 ∧ A = false) ∨ (e = .ret ∧ A = true ∧ ∃ k : Nat, fr' 4 = .int .i64 k))) := by
      refine run_of hr (aloop_each l.length (fun k fr H => H = X ∧ (∃ y, fr = AFr.al ([(0, .rsl 1 (ints l)), (1, .clo g [] []), (7, .int .i64 l.length), (8, .int .i64 k)] ++ y)) ∧ ((l.take k).any fun n => !slotOk n) = false) _ (fun k hk fr H hR => ?_) (fun fr H hR => ?_) ⟨rfl, ⟨[], rfl⟩, rfl⟩)
      · obtain ⟨rfl, ⟨y, rfl⟩, h3⟩ := hR
        have hk' : (k : Int) < l.length := by omega
        have hk1 : ((k + 1 : Nat) : Int) = (k : Int) + 1 := by omega
        have hme : l[k] ∈ l := List.getElem_mem hk
        have h1 := hs (ati l k)
        have hss : ((l.take (k + 1)).any fun n => !slotOk n) = !slotOk (ati l k) := by rw [List.take_succ_eq_append_getElem hk, List.any_append, h3, ati_eq l k hk]; simp
        rw [hss]
        rw [← ati_eq l k hk] at hme
        cases hv : slotOk (ati l k) with
        | false =>
          rw [hv] at h1
          refine ⟨_, _, _, by simp -implicitDefEqProofs +contextual (disch := omega) [slices_IndexFunc_int.l0, acallClo, acallR, hC, hk, hk', h1]; first | rfl | exact ⟨rfl, rfl⟩ | exact ⟨rfl, rfl, rfl⟩, .inr ⟨by simp, rfl, .inr ⟨rfl, hA.symm.trans (List.any_eq_true.2 ⟨_, hme, by rw [hv]; rfl⟩), k, by simp⟩⟩⟩
        | true =>
          rw [hv] at h1
          rw [hk1]
          refine ⟨_, _, _, by simp -implicitDefEqProofs +contextual (disch := omega) [slices_IndexFunc_int.l0, acallClo, acallR, hC, hk, hk', h1]; first | rfl | exact ⟨rfl, rfl⟩ | exact ⟨rfl, rfl, rfl⟩, .inl ⟨rfl, rfl, ⟨_, rfl⟩, rfl⟩⟩
      · obtain ⟨rfl, ⟨y, rfl⟩, h3⟩ := hR
        rw [List.take_length] at h3
        refine ⟨_, _, _, by simp -implicitDefEqProofs +contextual (disch := omega) [slices_IndexFunc_int.l0]; first | rfl | exact ⟨rfl, rfl⟩ | exact ⟨rfl, rfl, rfl⟩, by simp, rfl, .inl ⟨rfl, hA.symm.trans h3⟩⟩
    rcases hq with ⟨rfl, q⟩ | ⟨rfl, q, k, hk⟩
    · refine ⟨-1, by simp -implicitDefEqProofs +contextual (disch := omega) [], by rw [q]; simp⟩
    · refine ⟨k, by simp -implicitDefEqProofs +contextual (disch := omega) [hk], by rw [q]; simp⟩
  obtain ⟨i, h1, h2⟩ := hrun
  refine ⟨i, ?_, h2⟩
  rw [h1, forget_eq hX (Nat.le_refl _) (fun _ _ => rfl) rfl]
  rfl
theorem scontains_eq (g : FuncId) (s : SpecP) (hC : slices_IndexFunc_int.C emit_Step_1.spec emit_Code_1.spec verify_asked_ready_1.spec g = some (.pure false s)) (hs : ∀ n, s [.int .i64 n] = some (.bool (!slotOk n)))
    (X : AHeap) (hX : X.WF) (l : List Int) (hll : l.length ≤ 1000000000) :
    slices_ContainsFunc_int.spec [.rsl 1 (ints l), .clo g [] []] X = some (.bool (l.any fun n => !slotOk n), X) := by
  obtain ⟨i, h1, h2⟩ := sindex_eq g s hC hs X hX l hll
  have e : slices_ContainsFunc_int.spec [.rsl 1 (ints l), .clo g [] []] X = forget X (some ([.bool (l.any fun n => !slotOk n)], X)) := by
    by_cases hi : 0 ≤ i
    · simp -implicitDefEqProofs +contextual (disch := omega) [slices_ContainsFunc_int.spec, slices_ContainsFunc_int, h1, hi, h2.1 hi]
    · have : (l.any fun n => !slotOk n) = false := by
        rw [Bool.eq_false_iff]; exact fun q => hi (h2.2 q)
      simp -implicitDefEqProofs +contextual (disch := omega) [slices_ContainsFunc_int.spec, slices_ContainsFunc_int, h1, hi, this]
  rw [e, forget_eq hX (Nat.le_refl _) (fun _ _ => rfl) rfl]
  rfl
theorem hC_step : slices_IndexFunc_int.C emit_Step_1.spec emit_Code_1.spec verify_asked_ready_1.spec 72 = some (.pure false emit_Step_1.spec) := by simp [slices_IndexFunc_int.C, Tab.add]
theorem hC_code : slices_IndexFunc_int.C emit_Step_1.spec emit_Code_1.spec verify_asked_ready_1.spec 80 = some (.pure false emit_Code_1.spec) := by simp [slices_IndexFunc_int.C, Tab.add]
end Go.Abs
end
section
set_option linter.unusedSimpArgs false
set_option linter.unusedVariables false
namespace Go.Abs
open Th
theorem scontains_of {g : FuncId} {s : SpecP} (hC : slices_IndexFunc_int.C emit_Step_1.spec emit_Code_1.spec verify_asked_ready_1.spec g = some (.pure false s)) (hs : ∀ n, s [.int .i64 n] = some (.bool (!slotOk n)))
    {X : AHeap} {l : List Int} {r} (hr : slices_ContainsFunc_int.spec [.rsl 1 (ints l), .clo g [] []] X = r) (hX : X.WF) (hll : l.length ≤ 1000000000) :
    r = some (.bool (l.any fun n => !slotOk n), X) := by
  subst hr; exact scontains_eq g s hC hs X hX l hll
def oneC (o : OpM) : CodeM := ⟨1, [⟨o.k, 0, 0, o.n⟩], []⟩
def takesI (k : Int) : Int := if k = 1 ∨ k = 2 then 2 else if k = 0 ∨ k = 7 then 0 else 1
def fitsI (o : OpM) (dst : Int) (src : List Int) : Bool := (oneC o).can && decide ((src.length : Int) = takesI o.k) && slotOk dst && !(src.any fun n => !slotOk n)
theorem slots_nat (l : List Int) (h : (l.any fun n => !slotOk n) = false) : ∃ m : List Nat, l = m.map (fun x : Nat => (x : Int)) ∧ ∀ x ∈ m, x ≤ 16000 := by
  refine ⟨l.map Int.toNat, ?_, fun x hx => ?_⟩
  · rw [List.map_map]
    refine (List.map_id l).symm.trans (List.map_congr_left fun n hn => ?_)
    have := List.any_eq_false.1 h n hn
    simp [slotOk] at this
    simp; omega
  · obtain ⟨n, hn, rfl⟩ := List.mem_map.1 hx
    have := List.any_eq_false.1 h n hn
    simp [slotOk] at this
    omega
theorem takesI_le (k : Int) : takesI k ≤ 2 := by unfold takesI; repeat' split <;> omega
theorem stepI_ab (o : OpM) (a b : Int) (dst : Nat) (src : List Nat) : stepI ⟨o.k, a, b, o.n⟩ dst src = stepI o dst src := rfl
theorem EStep_eq (o : OpM) (dst : Int) (src : List Int) (hl : src.length ≤ 1000000000) :
    emit_Step.spec [.agg o.cells, .int .i64 dst, .rsl 1 (ints src)] = some (.rsl 5 (insRows (if fitsI o dst src = true then stepI o dst.toNat (src.map Int.toNat) else []))) := by
  have hcan := Can_eq' (oneC o) (by simp [oneC]) (by simp [oneC])
  have ht := etakes_eq o.k
  have htk : (if o.k = 1 ∨ o.k = 2 then (2 : Int) else if o.k = 0 ∨ o.k = 7 then 0 else 1) = takesI o.k := rfl
  rw [htk] at ht
  have hst := slot_eq dst
  unfold CodeM.cells oneC at hcan
  simp only [opRows, List.map_cons, List.map_nil, OpM.cells, ints, Option.some.injEq] at hcan
  unfold fitsI
  have hone : (oneC o).can = (CodeM.mk 1 [⟨o.k, 0, 0, o.n⟩] []).can := rfl
  rw [← hone] at hcan
  have hso : (decide (0 ≤ dst) && decide (dst ≤ 16000)) = slotOk dst := rfl
  rw [hso] at hst
  unfold OpM.cells
  cases hc : (oneC o).can with
  | false =>
    rw [hc] at hcan
    simp -implicitDefEqProofs +contextual (disch := omega) [emit_Step.spec, emit_Step, hcan, insRows]
  | true =>
    rw [hc] at hcan
    by_cases hlen : (src.length : Int) = takesI o.k
    · rw [decide_eq_true hlen]
      cases hs : slotOk dst with
      | false =>
        rw [hs] at hst
        simp -implicitDefEqProofs +contextual (disch := omega) [emit_Step.spec, emit_Step, hcan, ht, hlen, hst, insRows]
      | true =>
        rw [hs] at hst
        simp -implicitDefEqProofs +contextual (disch := omega) [emit_Step.spec, emit_Step, hcan, ht, hlen, hst]
        generalize hr : slices_ContainsFunc_int.spec _ _ = r
        obtain rfl := scontains_of hC_step step1_eq hr (by (repeat' (first | assumption | with_reducible apply AHeap.WF.push | with_reducible apply AHeap.WF.set | with_reducible apply killAll_wf | exact AHeap.WF.empty)) <;> (simp <;> omega)) hl
        cases hany : src.any fun n => !slotOk n with
        | true =>
          simp -implicitDefEqProofs +contextual (disch := omega) [insRows]
          intro h
          simp at hany
          obtain ⟨x, hx, h2⟩ := hany
          rw [h x hx] at h2; cases h2
        | false =>
          obtain ⟨m, rfl, hm⟩ := slots_nat src hany
          obtain ⟨k, rfl⟩ : ∃ k : Nat, dst = k := ⟨dst.toNat, by simp [slotOk] at hs; omega⟩
          have hk : k ≤ 16000 := by simp [slotOk] at hs; omega
          have hml : m.length ≤ 2 := by have := takesI_le o.k; simp at hlen; omega
          have hE := estep_eq ⟨o.k, 0, 0, o.n⟩ k hk m hml hm
          rw [stepI_ab] at hE
          unfold OpM.cells at hE
          have hmm : (m.map fun x : Nat => (x : Int)).map Int.toNat = m := by rw [List.map_map]; exact (List.map_congr_left fun x _ => by simp).trans (List.map_id m)
          rw [hmm, Int.toNat_natCast]
          generalize stepI o k m = L at *
          simp -implicitDefEqProofs +contextual (disch := omega) [hE]
          rw [if_pos (fun a ha => by have := hm a ha; simp [slotOk]; omega)]
    · rw [decide_eq_false hlen]
      simp -implicitDefEqProofs +contextual (disch := omega) [emit_Step.spec, emit_Step, hcan, ht, hlen, insRows]
end Go.Abs
end
