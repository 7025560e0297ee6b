/-
  Instructions' texts: the document's.
-/
import Derived.Test.YteohnepdbjmghaaE5
import Derived.Test.YteohnepdbjmghaaT5
set_option linter.unusedSimpArgs false
set_option linter.unusedVariables false
namespace Go.Abs
open Th
def regT (n : Int) : List UInt8 := 114 :: num n.toNat
def immT (n : Int) : List UInt8 := 35 :: num n.toNat
def csT : List UInt8 := [44, 32]
def aluT (n : Int) : List UInt8 :=
  if n = 0 then [97, 110, 100, 115] else if n = 1 then [101, 111, 114, 115] else if n = 7 then [114, 111, 114, 115] else [109, 118, 110, 115]
def showI (i : InsM) : List UInt8 :=
  if i.op = 0 then [109, 111, 118, 115, 32] ++ (regT i.d ++ csT) ++ immT i.imm
  else if i.op = 2 then [97, 100, 100, 115, 32] ++ (regT i.d ++ csT) ++ immT i.imm
  else if i.op = 4 then [108, 115, 108, 115, 32] ++ (regT i.d ++ csT) ++ regT i.m ++ csT ++ immT i.imm
  else if i.op = 5 then [108, 115, 114, 115, 32] ++ (regT i.d ++ csT) ++ regT i.m ++ csT ++ immT i.imm
  else if i.op = 11 then aluT i.imm ++ [32] ++ (regT i.d ++ csT) ++ regT i.m
  else if i.op = 12 then [108, 100, 114, 32] ++ (regT i.d ++ csT) ++ [91] ++ regT i.n ++ csT ++ immT (4 * i.imm) ++ [93]
  else if i.op = 14 then [108, 100, 114, 32] ++ (regT i.d ++ csT) ++ [91] ++ regT i.n ++ csT ++ regT i.m ++ [93]
  else [115, 116, 114, 32] ++ (regT i.d ++ csT) ++ [91] ++ regT i.n ++ csT ++ regT i.m ++ [93]
def usedI (i : InsM) : Prop := (i.op = 0 ∨ i.op = 2 ∨ i.op = 4 ∨ i.op = 5 ∨ (i.op = 11 ∧ (i.imm = 0 ∨ i.imm = 1 ∨ i.imm = 7 ∨ i.imm = 15)) ∨ i.op = 12 ∨ i.op = 14 ∨ i.op = 15) ∧ i.can = true
theorem reg_eq (n : Int) (h : 0 ≤ n ∧ n ≤ 7) : ref04_reg.spec [.int .i64 n] = some (.str (bs (regT n))) := by
  obtain ⟨k, rfl⟩ : ∃ k : Nat, n = k := ⟨n.toNat, by omega⟩
  have hn := Num_eq k (by omega)
  have hl := num_len k
  unfold regT
  rw [Int.toNat_natCast]
  generalize num k = l at *
  simp -implicitDefEqProofs +contextual (disch := omega) [ref04_reg.spec, ref04_reg, hn]
theorem imm_eq (n : Int) (h : 0 ≤ n ∧ n ≤ 100000) : ref04_imm.spec [.int .i64 n] = some (.str (bs (immT n))) := by
  obtain ⟨k, rfl⟩ : ∃ k : Nat, n = k := ⟨n.toNat, by omega⟩
  have hn := Num_eq k (by omega)
  have hl := num_len k
  unfold immT
  rw [Int.toNat_natCast]
  generalize num k = l at *
  simp -implicitDefEqProofs +contextual (disch := omega) [ref04_imm.spec, ref04_imm, hn]
theorem regT_len (n : Int) : (regT n).length ≤ 20 := by have := num_len n.toNat; simp [regT]; omega
theorem immT_len (n : Int) : (immT n).length ≤ 20 := by have := num_len n.toNat; simp [immT]; omega
def aluRows : List (List AV) := [[(.str (bs [97, 110, 100, 115]))], [(.str (bs [101, 111, 114, 115]))], [(.str (bs [108, 115, 108, 115]))], [(.str (bs [108, 115, 114, 115]))], [(.str (bs [97, 115, 114, 115]))], [(.str (bs [97, 100, 99, 115]))], [(.str (bs [115, 98, 99, 115]))], [(.str (bs [114, 111, 114, 115]))], [(.str (bs [116, 115, 116]))], [(.str (bs [114, 115, 98, 115]))], [(.str (bs [99, 109, 112]))], [(.str (bs [99, 109, 110]))], [(.str (bs [111, 114, 114, 115]))], [(.str (bs [109, 117, 108, 115]))], [(.str (bs [98, 105, 99, 115]))], [(.str (bs [109, 118, 110, 115]))]]
theorem build16 (H : AHeap) : abuildSliceR (some ⟨T.ty_string, 1, 16, [(.str (bs []))]⟩) 16 [(0, (.str (bs [97, 110, 100, 115]))), (1, (.str (bs [101, 111, 114, 115]))), (2, (.str (bs [108, 115, 108, 115]))), (3, (.str (bs [108, 115, 114, 115]))), (4, (.str (bs [97, 115, 114, 115]))), (5, (.str (bs [97, 100, 99, 115]))), (6, (.str (bs [115, 98, 99, 115]))), (7, (.str (bs [114, 111, 114, 115]))), (8, (.str (bs [116, 115, 116]))), (9, (.str (bs [114, 115, 98, 115]))), (10, (.str (bs [99, 109, 112]))), (11, (.str (bs [99, 109, 110]))), (12, (.str (bs [111, 114, 114, 115]))), (13, (.str (bs [109, 117, 108, 115]))), (14, (.str (bs [98, 105, 99, 115]))), (15, (.str (bs [109, 118, 110, 115])))] H = some (.sl H.next 1 0 16, H.push ⟨T.ty_string, 1, true, aluRows⟩) := rfl
theorem aluRows_0 : aluRows[0]? = some [.str (bs [97, 110, 100, 115])] := rfl
theorem aluRows_1 : aluRows[1]? = some [.str (bs [101, 111, 114, 115])] := rfl
theorem aluRows_7 : aluRows[7]? = some [.str (bs [114, 111, 114, 115])] := rfl
theorem aluRows_15 : aluRows[15]? = some [.str (bs [109, 118, 110, 115])] := rfl
theorem show_alu (op : Nat) (nm D M : List UInt8) (hn : aluRows[op]? = some [.str (bs nm)]) (hop : op < 16) (d n m : Int) (hD : D.length ≤ 30) (hM : M.length ≤ 30) (hnm : nm.length ≤ 10) (e3 : ref04_reg.spec [.int .i64 m] = some (.str (bs M))) (H : AHeap) (hw : H.WF)
    (h0 : H.get 0 = some ⟨T.ty_api_Ins, 5, true, [[.int .i64 11, .int .i64 d, .int .i64 n, .int .i64 m, .int .i64 op]]⟩) (v : AV) :
    ∃ H', ref04_Show.r14 ref04_reg.spec (AFr.al [(1, .ptr 0 5 0 0), (4, .str (bs D)), (5, .int .i64 11), (85, v)]) H = some (.normal, AFr.al [(2, .str (bs (nm ++ [32] ++ D ++ M))), (3, .bool true)], H') := by
  have b0 := hw _ _ h0
  simp only [ref04_Show.r14]
  rw [build16]
  generalize aluRows = R at *
  refine ⟨_, by simp -implicitDefEqProofs +contextual (disch := omega) [h0, hn, e3]; rfl⟩
theorem show_alu_of {op : Nat} {D M : List UInt8} {d n m : Int} {H : AHeap} {v : AV} {r : ARes} (hr : ref04_Show.r14 ref04_reg.spec (AFr.al [(1, .ptr 0 5 0 0), (4, .str (bs D)), (5, .int .i64 11), (85, v)]) H = r) (nm : List UInt8) (hn : aluRows[op]? = some [.str (bs nm)]) (hop : op < 16) (hD : D.length ≤ 30) (hM : M.length ≤ 30) (hnm : nm.length ≤ 10) (e3 : ref04_reg.spec [.int .i64 m] = some (.str (bs M))) (hw : H.WF)
    (h0 : H.get 0 = some ⟨T.ty_api_Ins, 5, true, [[.int .i64 11, .int .i64 d, .int .i64 n, .int .i64 m, .int .i64 op]]⟩) :
    ∃ H', r = some (.normal, AFr.al [(2, .str (bs (nm ++ [32] ++ D ++ M))), (3, .bool true)], H') := by
  subst hr; exact show_alu op nm D M hn hop d n m hD hM hnm e3 H hw h0 v
set_option maxHeartbeats 4000000 in
theorem Show_eq (i : InsM) (h : usedI i) : ref04_Show.spec [InsAV i] = some (.tup [.str (bs (showI i)), .bool true]) := by
  obtain ⟨hop, hcan⟩ := h
  have hc := rCan_eq i
  rw [hcan] at hc
  obtain ⟨⟨h0, h20⟩, l1, l2, l3, l4, l5, l6, l7, l8⟩ := (can_iff i).1 hcan
  obtain ⟨op, d, n, m, imm⟩ := i
  dsimp only at *
  simp only [InsAV] at *
  have rd := regT_len d
  have rn := regT_len n
  have rm := regT_len m
  have ri := immT_len imm
  have ri4 := immT_len (4 * imm)
  rcases hop with rfl | rfl | rfl | rfl | ⟨rfl, hi⟩ | rfl | rfl | rfl
  all_goals simp [shp, maxD, maxN, maxM, hasD, hasN, hasM] at l1 l2 l3 l4 l5 l6 l7 l8
  · have e1 := reg_eq d (by omega)
    have e2 := imm_eq imm (by omega)
    simp only [showI, csT, if_true]
    generalize regT d = D at *
    generalize immT imm = I at *
    simp -implicitDefEqProofs +contextual (disch := omega) [ref04_Show.spec, ref04_Show, hc, e1, e2]
  · have e1 := reg_eq d (by omega)
    have e2 := imm_eq imm (by omega)
    simp [showI, csT]
    generalize regT d = D at *
    generalize immT imm = I at *
    simp -implicitDefEqProofs +contextual (disch := omega) [ref04_Show.spec, ref04_Show, hc, e1, e2]
  · have e1 := reg_eq d (by omega)
    have e2 := imm_eq imm (by omega)
    have e3 := reg_eq m (by omega)
    simp [showI, csT]
    generalize regT d = D at *
    generalize regT m = M at *
    generalize immT imm = I at *
    simp -implicitDefEqProofs +contextual (disch := omega) [ref04_Show.spec, ref04_Show, hc, e1, e2, e3]
  · have e1 := reg_eq d (by omega)
    have e2 := imm_eq imm (by omega)
    have e3 := reg_eq m (by omega)
    simp [showI, csT]
    generalize regT d = D at *
    generalize regT m = M at *
    generalize immT imm = I at *
    simp -implicitDefEqProofs +contextual (disch := omega) [ref04_Show.spec, ref04_Show, hc, e1, e2, e3]
  · have e1 := reg_eq d (by omega)
    have e3 := reg_eq m (by omega)
    have hi' : ∃ k : Nat, imm = k ∧ k < 16 ∧ ∃ nm, aluRows[k]? = some [.str (bs nm)] ∧ nm.length ≤ 10 ∧ aluT k = nm := by
      rcases hi with rfl | rfl | rfl | rfl
      · exact ⟨0, rfl, by decide, _, aluRows_0, by decide, rfl⟩
      · exact ⟨1, rfl, by decide, _, aluRows_1, by decide, rfl⟩
      · exact ⟨7, rfl, by decide, _, aluRows_7, by decide, rfl⟩
      · exact ⟨15, rfl, by decide, _, aluRows_15, by decide, rfl⟩
    obtain ⟨k, rfl, hk, nm, q1, q2, q3⟩ := hi'
    have hsh : showI ⟨11, d, n, m, (k : Int)⟩ = nm ++ [32] ++ (regT d ++ csT) ++ regT m := by simp [showI, q3]
    rw [hsh]
    simp only [csT]
    generalize regT d = D at *
    generalize regT m = M at *
    simp -implicitDefEqProofs +contextual (disch := omega) [ref04_Show.spec, ref04_Show, hc, e1, -ref04_Show.r14]
    generalize hr : ref04_Show.r14 _ _ _ = r
    obtain ⟨H', rfl⟩ := show_alu_of (d := d) (n := n) hr nm q1 hk (by simp; omega) (by omega) q2 e3 (by (repeat' (first | assumption | with_reducible apply AHeap.WF.push | with_reducible apply AHeap.WF.set | with_reducible apply killAll_wf | exact AHeap.WF.empty)) <;> (simp <;> omega)) (by simp)
    simp -implicitDefEqProofs +contextual (disch := omega) []
  · have e1 := reg_eq d (by omega)
    have e2 := imm_eq (4 * imm) (by omega)
    have e3 := reg_eq n (by omega)
    simp [showI, csT]
    generalize regT d = D at *
    generalize regT n = M at *
    generalize immT (4 * imm) = I at *
    simp -implicitDefEqProofs +contextual (disch := omega) [ref04_Show.spec, ref04_Show, hc, e1, e2, e3]
  · have e1 := reg_eq d (by omega)
    have e2 := reg_eq n (by omega)
    have e3 := reg_eq m (by omega)
    simp [showI, csT]
    generalize regT d = D at *
    generalize regT n = N at *
    generalize regT m = M at *
    simp -implicitDefEqProofs +contextual (disch := omega) [ref04_Show.spec, ref04_Show, hc, e1, e2, e3]
  · have e1 := reg_eq d (by omega)
    have e2 := reg_eq n (by omega)
    have e3 := reg_eq m (by omega)
    simp [showI, csT]
    generalize regT d = D at *
    generalize regT n = N at *
    generalize regT m = M at *
    simp -implicitDefEqProofs +contextual (disch := omega) [ref04_Show.spec, ref04_Show, hc, e1, e2, e3]
end Go.Abs
