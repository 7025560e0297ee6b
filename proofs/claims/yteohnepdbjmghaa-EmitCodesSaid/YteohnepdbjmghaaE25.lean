/-
  The law EmitCodes.
-/
import Derived.Test.YteohnepdbjmghaaE24
import Derived.Test.YteohnepdbjmghaaE23
import Derived.Test.YteohnepdbjmghaaT6
import Derived.Test.YteohnepdbjmghaaT9
set_option linter.unusedSimpArgs false
set_option linter.unusedVariables false
namespace Go.Abs
open Th
theorem rShow_bk : ref04_Show.spec [InsAV bkI] = some (.tup [.str (bs bkT), .bool true]) := by
  have hc := rCan_eq bkI
  rw [show bkI.can = true by decide +kernel] at hc
  have e0 := reg_eq 0 (by omega)
  have e1 := imm_eq 0 (by omega)
  rw [show regT 0 = [114, 48] by decide +kernel] at e0
  rw [show immT 0 = [35, 48] by decide +kernel] at e1
  unfold InsAV bkI at hc ⊢
  dsimp only at hc ⊢
  unfold bkT
  simp -implicitDefEqProofs +contextual (disch := omega) [ref04_Show.spec, ref04_Show, hc, e0, e1]
theorem line_of (i : InsM) (hi : i.can = true) (s : List UInt8) (hs : ref04_Show.spec [InsAV i] = some (.tup [.str (bs s), .bool true])) : ref04_Line.spec [W16 (putM i).1] = some (.str (bs s)) := by
  have hT := rTake_eq (putM i).1
  rw [putM_take hi] at hT
  dsimp only at hT
  generalize (putM i).1 = h at *
  unfold InsAV at hT hs
  simp -implicitDefEqProofs +contextual (disch := omega) [ref04_Line.spec, ref04_Line, hT, hs]
theorem upI_used (c : CodeM) (hok : opsOk c.ops c.inN = true) (hin : 0 ≤ c.inN) (m : List Nat) (hm : ∀ x ∈ m, x ≤ 16000) : ∀ k, k ≤ c.ops.length → UsedL (upI c m k)
  | 0, _ => by simpa [upI] using beginI_used
  | k + 1, h => by
    rw [upI_succ]
    have e1 : c.ops.getD k opZ = c.ops[k] := by simp [List.getD_eq_getElem?_getD, show k < c.ops.length by omega]
    have h3 := (opsOk_all _ _).1 hok k (by omega)
    have hf := fits_of c.ops[k] _ h3 m hm (m.getD (c.inN.toNat + k) 0) (getD_le m hm _)
    refine (upI_used c hok hin m hm k (by omega)).append ?_
    rw [blkI, e1]
    exact stepI_used _ (fits_parts _ _ _ hf).2.2.2.2 _ (getD_le m hm _) _ (by have := srcI_len m c.ops[k]; omega) (srcI_le m hm _)
noncomputable abbrev ekL := law25_EmitCodes.l0 law25_few.spec law25_lives.spec ref19_Own.spec emit_Code.spec ref25_Lines.spec ref04_Line.spec
theorem codes_loop (L : List (BitVec 16)) (S : List (List UInt8)) (hls : L.length = S.length) (hL : L.length ≤ 1000000) (hk : ∀ k (h1 : k < L.length) (h2 : k < S.length), ref04_Line.spec [W16 L[k]] = some (.str (bs S[k]))) (X : AHeap) {r}
    (hr : aloop ekL (AFr.al [(5, .rsl 1 (w16s L)), (7, .rsl 1 (strRows S)), (9, .int .i64 0)]) X = r) :
    ∃ e fr' X', r = some (e, fr', X') ∧ (e = .exit 0) := by
  refine run_of hr (aloop_each L.length (fun k fr H => ∃ y, fr = AFr.al ([(5, .rsl 1 (w16s L)), (7, .rsl 1 (strRows S)), (9, .int .i64 k)] ++ y)) _ (fun k hk' fr H hR => ?_) (fun fr H hR => ?_) ⟨[], rfl⟩)
  · obtain ⟨y, rfl⟩ := hR
    have hk1 : ((k + 1 : Nat) : Int) = (k : Int) + 1 := by omega
    have hk2 : (k : Int) < L.length := by omega
    have h1 : (w16s L)[k]? = some [W16 L[k]] := by simp [w16s, hk']
    have h2 := strRows_get S k (by omega)
    have hS := hk k hk' (by omega)
    rw [hk1]
    have hR1 : (w16s L).length = L.length := w16s_length L
    have hR2 : (strRows S).length = L.length := by rw [strRows_length, hls]
    generalize w16s L = R1 at *
    generalize strRows S = R2 at *
    generalize L[k] = a at *
    generalize S[k] = b at *
    refine ⟨_, _, _, by simp -implicitDefEqProofs +contextual (disch := omega) [law25_EmitCodes.l0, hk2, h1, h2, hS, hR1, hR2, -getElem?_pos]; first | rfl | exact ⟨rfl, rfl⟩ | exact ⟨rfl, rfl, rfl⟩, .inl ⟨rfl, _, rfl⟩⟩
  · obtain ⟨y, rfl⟩ := hR
    refine ⟨_, _, _, by simp -implicitDefEqProofs +contextual (disch := omega) [law25_EmitCodes.l0]; first | rfl | exact ⟨rfl, rfl⟩ | exact ⟨rfl, rfl, rfl⟩, by simp, rfl⟩
theorem emitCodes_law (c : CodeM) (slots : List Int) (hl : slots.length ≤ 100000000000000) : law25_EmitCodes.spec [.agg c.cells, .rsl 1 (ints slots)] = some (.bool true) := by
  have hF := few_eq c
  cases hf : fewM c with
  | false =>
    rw [hf] at hF
    unfold CodeM.cells at *
    simp -implicitDefEqProofs +contextual (disch := omega) [law25_EmitCodes.spec, law25_EmitCodes, hF, lives25]
  | true =>
    rw [hf] at hF
    unfold fewM at hf
    simp only [Bool.and_eq_true, decide_eq_true_eq] at hf
    obtain ⟨⟨f1, f2⟩, f3⟩ := hf
    by_cases h4 : slots.length ≤ 400
    · have h4' : ¬ (400 : Int) < slots.length := by omega
      have hO := rOwn_eq c (by omega) (by omega)
      have hE := ECode_eq c (by omega) (by omega) slots (by omega)
      have hG := rLines_eq c (by omega) (by omega) slots (by omega)
      by_cases hfit : codeFits c slots = true
      · rw [if_pos hfit] at hE hG
        have hcan := hfit
        unfold codeFits CodeM.can at hcan
        simp only [Bool.and_eq_true, decide_eq_true_eq, Bool.not_eq_true'] at hcan
        obtain ⟨⟨⟨⟨⟨⟨c1, c2⟩, c3⟩, c4⟩, c5⟩, c6⟩, c7⟩ := hcan
        obtain ⟨m, hmq, hm⟩ := slots_nat slots c7
        have hmm : slots.map Int.toNat = m := by rw [hmq, List.map_map]; exact (List.map_congr_left fun x _ => by simp).trans (List.map_id m)
        rw [hmm] at hE hG
        clear hmq
        have hu := upI_used c c4 c1 m hm c.ops.length (Nat.le_refl _)
        have hle := upI_le c m c.ops.length
        have hlast : hlfs (codeI c m) = hlfs (upI c m c.ops.length) ++ [48640#16] := by unfold codeI; rw [hlfs_append]; simp [hlfs, putM_bk]
        have hlen : (hlfs (codeI c m)).length = (codeT c m).length := by simp [codeI, codeT]
        have hLl : (hlfs (codeI c m)).length ≤ 1000000 := by simp [codeI]; omega
        have hall : ∀ k (h1 : k < (hlfs (codeI c m)).length) (h2 : k < (codeT c m).length), ref04_Line.spec [W16 (hlfs (codeI c m))[k]] = some (.str (bs (codeT c m)[k])) := by
          intro k h1 h2
          unfold codeI codeT at *
          by_cases hk : k < (upI c m c.ops.length).length
          · have e1 : (hlfs (upI c m c.ops.length ++ [bkI]))[k] = (putM (upI c m c.ops.length)[k]).1 := by simp [hlfs, List.getElem_append_left, hk]
            have e2 : (linesI (upI c m c.ops.length) ++ [bkT])[k] = showI (upI c m c.ops.length)[k] := by rw [List.getElem_append_left (by simpa using hk)]; simp [linesI]
            rw [e1, e2]
            have hui := hu _ (List.getElem_mem hk)
            exact line_of _ hui.2 _ (Show_eq _ hui)
          · have hk3 : k = (upI c m c.ops.length).length := by simp at h1; omega
            have e1 : (hlfs (upI c m c.ops.length ++ [bkI]))[k] = (putM bkI).1 := by simp [hlfs, hk3]
            have e2 : (linesI (upI c m c.ops.length) ++ [bkT])[k] = bkT := by simp [hk3]
            rw [e1, e2]
            exact line_of _ (by decide +kernel) _ rShow_bk
        generalize hlfs (codeI c m) = L at *
        generalize codeT c m = S at *
        have hwl : (w16s L).length = L.length := w16s_length L
        have hsl : (strRows S).length = L.length := by rw [strRows_length, hlen]
        unfold CodeM.cells at *
        simp -implicitDefEqProofs +contextual (disch := omega) [law25_EmitCodes.spec, law25_EmitCodes, hF, lives25, h4', hO, hE, hG, hwl, hsl]
        generalize hr : aloop _ _ _ = r
        obtain ⟨e, fr', X', rfl, rfl⟩ := codes_loop L S hlen hLl hall _ hr
        simp -implicitDefEqProofs +contextual (disch := omega) [lives25]
      · rw [if_neg hfit] at hE hG
        unfold CodeM.cells at *
        simp -implicitDefEqProofs +contextual (disch := omega) [law25_EmitCodes.spec, law25_EmitCodes, hF, lives25, h4', hO, hE, hG]
        generalize hr : aloop _ _ _ = r
        obtain ⟨e, fr', X', rfl, rfl⟩ := codes_loop [] [] rfl (by simp) (fun k h1 => by simp at h1) _ hr
        simp -implicitDefEqProofs +contextual (disch := omega) [lives25]
    · have h4' : (400 : Int) < slots.length := by omega
      unfold CodeM.cells at *
      simp -implicitDefEqProofs +contextual (disch := omega) [law25_EmitCodes.spec, law25_EmitCodes, hF, lives25, h4']
theorem law25_EmitCodes_law (args : List AV) (h : ArgsSh [(true, [.int .i64, .sl 4 32 [.int .i64, .int .i64, .int .i64, .int .u32], .sl 1 8 [.int .i64]]), (false, [.sl 1 8 [.int .i64]])] args) : law25_EmitCodes.spec args = some (.bool true) := by
  obtain ⟨cs, _, rfl, h1, h⟩ := args_agg h
  obtain ⟨a, _, rfl, h2, h⟩ := args_one h
  obtain rfl := args_nil h
  obtain ⟨c, r, rfl, hr, _, _, _⟩ := sh_code h1
  obtain rfl := shs_nil hr
  rw [List.append_nil]
  obtain ⟨l, rfl, hl, _⟩ := sh_slint h2.1
  exact emitCodes_law c l (by omega)
end Go.Abs
