/-
  Code of steps, whole.
-/
import Derived.Test.YteohnepdbjmghaaE21
set_option linter.unusedSimpArgs false
set_option linter.unusedVariables false
namespace Go.Abs
open Th
def opZ : OpM := ⟨0, 0, 0, 0#32⟩
def blkI (c : CodeM) (m : List Nat) (k : Nat) : List InsM := stepI (c.ops.getD k opZ) (m.getD (c.inN.toNat + k) 0) (srcI m (c.ops.getD k opZ))
def upI (c : CodeM) (m : List Nat) (k : Nat) : List InsM := beginI ++ ((List.range k).map (blkI c m)).flatten
theorem upI_succ (c : CodeM) (m : List Nat) (k : Nat) : upI c m (k + 1) = upI c m k ++ blkI c m k := by
  unfold upI; rw [List.range_succ, List.map_append, List.flatten_append, List.append_assoc]; simp
theorem blkI_le (c : CodeM) (m : List Nat) (k : Nat) : (blkI c m k).length ≤ 22 := stepI_le _ _ _ (srcI_len _ _)
theorem upI_le (c : CodeM) (m : List Nat) : ∀ k, (upI c m k).length ≤ 4 + 22 * k
  | 0 => by simp [upI, beginI]
  | k + 1 => by rw [upI_succ, List.length_append]; have := upI_le c m k; have := blkI_le c m k; omega
def bkI : InsM := ⟨20, 0, 0, 0, 0⟩
def codeI (c : CodeM) (m : List Nat) : List InsM := upI c m c.ops.length ++ [bkI]
def codeFits (c : CodeM) (slots : List Int) : Bool := c.can && decide ((slots.length : Int) = c.inN + c.ops.length) && !(slots.any fun n => !slotOk n)
theorem ec_loop (c : CodeM) (n : Nat) (hn : c.inN = n) (m : List Nat) (hm : ∀ x ∈ m, x ≤ 16000) (hml : m.length = n + c.ops.length) (hop : c.ops.length ≤ 1000) (hin : n ≤ 4000) (hok : opsOk c.ops c.inN = true)
    (v : AV) (H : AHeap) (hw : H.WF) (h0 : H.get 0 = some (codeBlk c)) (h0' : NotAt 0 v) (hv : HV (hlfs beginI) v H) {r} (hr : aloop ecL0 (ecFr c m v 0 []) H = r) :
    ∃ e fr' X', r = some (e, fr', X') ∧ (e = .exit 0 ∧ HV (hlfs (upI c m c.ops.length)) (fr' 6) X' ∧ X'.WF) := by
  refine run_of hr (aloop_each c.ops.length (fun k fr X => ∃ y v', fr = ecFr c m v' k y ∧ HV (hlfs (upI c m k)) v' X ∧ X.WF ∧ X.get 0 = some (codeBlk c) ∧ NotAt 0 v') _ (fun k hk fr X hR => ?_) (fun fr X hR => ?_) ⟨[], v, rfl, by simpa [upI] using hv, hw, h0, h0'⟩)
  · obtain ⟨y, v', rfl, q1, q2, q3, q4⟩ := hR
    have hu := upI_le c m k
    have hok' := (opsOk_all _ _).1 hok k hk
    rw [hn, show (n : Int) + k = ((n + k : Nat) : Int) by omega] at hok'
    obtain ⟨v2, H2, y2, s1, s2, s3, s4, s5⟩ := ec_round c n hn m hm hml hop hin k hk hok' (hlfs (upI c m k)) (by simp; omega) v' X y q2 q3 q4 q1
    refine ⟨_, _, _, s1, .inl ⟨rfl, y2, v2, rfl, ?_, s3, s4, s5⟩⟩
    have e1 : c.ops.getD k opZ = c.ops[k] := by simp [List.getD_eq_getElem?_getD, hk]
    rw [upI_succ, hlfs_append, blkI, e1, hn, Int.toNat_natCast]
    exact s2
  · obtain ⟨y, v', rfl, q1, q2, q3, q4⟩ := hR
    refine ⟨_, _, _, by simp -implicitDefEqProofs +contextual (disch := omega) [emit_Code.l0, ecFr]; first | rfl | exact ⟨rfl, rfl⟩ | exact ⟨rfl, rfl, rfl⟩, by simp, rfl, by simpa [ecFr] using q1, q2⟩
theorem putM_bk : putM bkI = (48640#16, 0) := by decide +kernel
theorem halves_bk {ws : List (BitVec 16)} (hws : ws.length ≤ 900000) {v : AV} {H : AHeap} (hw : H.WF) (hv : HV ws v H) :
    ∃ v' H', emit_halves.spec [v, .sl H.next 5 0 1] (H.push { e := T.ty_api_Ins, sz := 5, flat := true, rows := [[.int .i64 20, .int .i64 0, .int .i64 0, .int .i64 0, .int .i64 0]] }) = some (v', H') ∧ HV (ws ++ [48640#16]) v' H' := by
  have hP := Put_eq bkI
  rw [putM_bk] at hP
  unfold InsAV bkI at hP
  dsimp only at hP
  rcases hv with ⟨rfl, rfl⟩ | ⟨ob, rfl, gb⟩
  · refine ⟨_, _, by simp -implicitDefEqProofs +contextual (disch := omega) [emit_halves.spec, emit_halves, aloop_unroll, emit_halves.l0, hP]; exact ⟨rfl, rfl⟩, .inr ⟨_, rfl, by simp [w16s]⟩⟩
  · have hob := hw _ _ gb
    refine ⟨_, _, by simp -implicitDefEqProofs +contextual (disch := omega) [emit_halves.spec, emit_halves, aloop_unroll, emit_halves.l0, hP, gb]; exact ⟨rfl, rfl⟩, .inr ⟨_, by simp; rfl, by simp [w16s_snoc]⟩⟩
set_option maxHeartbeats 4000000 in
theorem ECode_eq (c : CodeM) (hop : c.ops.length ≤ 1000) (hout : c.outs.length ≤ 1000000000) (slots : List Int) (hl : slots.length ≤ 1000000000) :
    emit_Code.spec [.agg c.cells, .rsl 1 (ints slots)] = some (if codeFits c slots = true then .tup [.rsl 1 (w16s (hlfs (codeI c (slots.map Int.toNat)))), .int .i64 0] else .tup [.rsl 1 [], .int .i64 1]) := by
  have hC := Can_eq' c hout (by omega)
  have hcb := codeBlk_eq c
  unfold codeFits
  unfold CodeM.cells at hC ⊢
  cases hcan : c.can with
  | false =>
    rw [hcan] at hC
    simp -implicitDefEqProofs +contextual (disch := omega) [emit_Code.spec, emit_Code, hC]
  | true =>
    rw [hcan] at hC
    have hcan' := hcan
    unfold CodeM.can at hcan'
    simp only [Bool.and_eq_true, decide_eq_true_eq] at hcan'
    obtain ⟨⟨⟨⟨q1, q2⟩, q3⟩, q4⟩, q5⟩ := hcan'
    obtain ⟨n, hn⟩ : ∃ n : Nat, c.inN = n := ⟨c.inN.toNat, by omega⟩
    rw [hn] at hC hcb ⊢
    have hn4 : n ≤ 4000 := by omega
    by_cases hlen : (slots.length : Int) = n + c.ops.length
    · rw [decide_eq_true hlen]
      simp -implicitDefEqProofs +contextual (disch := omega) [emit_Code.spec, emit_Code, hC, hlen]
      generalize hr : slices_ContainsFunc_int.spec _ _ = r
      obtain rfl := scontains_of hC_code code1_eq hr (by (repeat' (first | assumption | with_reducible apply AHeap.WF.push | with_reducible apply AHeap.WF.set | with_reducible apply killAll_wf | exact AHeap.WF.empty)) <;> (simp <;> omega)) hl
      cases hany : slots.any fun n => !slotOk n with
      | true =>
        simp -implicitDefEqProofs +contextual (disch := omega) []
        simpa using hany
      | false =>
        obtain ⟨m, rfl, hm⟩ := slots_nat slots hany
        have hmm : (m.map fun x : Nat => (x : Int)).map Int.toNat = m := by rw [List.map_map]; exact (List.map_congr_left fun x _ => by simp).trans (List.map_id m)
        rw [hmm, if_pos (fun a ha => by obtain ⟨x, hx, rfl⟩ := List.mem_map.1 ha; have := hm x hx; simp [slotOk]; omega)]
        rw [List.length_map] at hlen
        have hB := begin_eq
        simp -implicitDefEqProofs +contextual (disch := omega) [hB]
        generalize hq : emit_halves.spec _ _ = q
        obtain ⟨v1, X1, rfl, p1, p2⟩ := halves_of hq (by simp [beginI]) [] (by simp) (by (repeat' (first | assumption | with_reducible apply AHeap.WF.push | with_reducible apply AHeap.WF.set | with_reducible apply killAll_wf | exact AHeap.WF.empty)) <;> (simp <;> omega)) (.inl ⟨rfl, rfl⟩)
        obtain ⟨g1, g2⟩ := p2.2.2 0 _ (by simp; rfl) (fun _ h => by cases h)
        simp -implicitDefEqProofs +contextual (disch := omega) [g1]
        generalize hr : aloop _ _ _ = r
        obtain ⟨e, fr', X', rfl, rfl, s1, s2⟩ := ec_loop c n hn m hm (by omega) hop (by omega) q4 v1 X1 p2.1 (by rw [hcb]; exact g1) g2 p1 hr
        have hu := upI_le c m c.ops.length
        simp -implicitDefEqProofs +contextual (disch := omega) []
        obtain ⟨v2, X2, t1, t2⟩ := halves_bk (by simp; omega) s2 s1
        have hco : hlfs (upI c m c.ops.length) ++ [48640#16] = hlfs (codeI c m) := by unfold codeI; rw [hlfs_append]; simp [hlfs, putM_bk]
        rw [hco] at t2
        rw [t1]
        rcases t2 with ⟨t3, rfl⟩ | ⟨ob, rfl, t4⟩
        · have : (hlfs (codeI c m)).length = 0 := by rw [t3]; rfl
          simp [codeI] at this
        · generalize hlfs (codeI c m) = L at *
          simp -implicitDefEqProofs +contextual (disch := omega) [t4]
    · rw [decide_eq_false hlen]
      simp -implicitDefEqProofs +contextual (disch := omega) [emit_Code.spec, emit_Code, hC, hlen]
end Go.Abs
