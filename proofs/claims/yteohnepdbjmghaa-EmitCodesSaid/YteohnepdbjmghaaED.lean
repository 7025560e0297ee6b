import Derived.Test.YteohnepdbjmghaaEC
import Derived.Test.YteohnepdbjmghaaT5
import Derived.Test.YteohnepdbjmghaaErF
import Derived.Test.YteohnepdbjmghaaL25F
section
set_option linter.unusedSimpArgs false
set_option linter.unusedVariables false
namespace Go.Abs
open Th
def regT (n : Int) : List UInt8 := 114 :: num n.toNat
def immT (n : Int) : List UInt8 := 35 :: num n.toNat
def csT : List UInt8 := [44, 32]
def aluT (n : Int) : List UInt8 :=
  if n = 0 then [97, 110, 100, 115] else if n = 1 then [101, 111, 114, 115] else if n = 7 then [114, 111, 114, 115] else [109, 118, 110, 115]
def showI (i : InsM) : List UInt8 :=
  if i.op = 0 then [109, 111, 118, 115, 32] ++ (regT i.d ++ csT) ++ immT i.imm
  else if i.op = 2 then [97, 100, 100, 115, 32] ++ (regT i.d ++ csT) ++ immT i.imm
  else if i.op = 4 then [108, 115, 108, 115, 32] ++ (regT i.d ++ csT) ++ regT i.m ++ csT ++ immT i.imm
  else if i.op = 5 then [108, 115, 114, 115, 32] ++ (regT i.d ++ csT) ++ regT i.m ++ csT ++ immT i.imm
  else if i.op = 11 then aluT i.imm ++ [32] ++ (regT i.d ++ csT) ++ regT i.m
  else if i.op = 12 then [108, 100, 114, 32] ++ (regT i.d ++ csT) ++ [91] ++ regT i.n ++ csT ++ immT (4 * i.imm) ++ [93]
  else if i.op = 14 then [108, 100, 114, 32] ++ (regT i.d ++ csT) ++ [91] ++ regT i.n ++ csT ++ regT i.m ++ [93]
  else [115, 116, 114, 32] ++ (regT i.d ++ csT) ++ [91] ++ regT i.n ++ csT ++ regT i.m ++ [93]
def usedI (i : InsM) : Prop := (i.op = 0 ∨ i.op = 2 ∨ i.op = 4 ∨ i.op = 5 ∨ (i.op = 11 ∧ (i.imm = 0 ∨ i.imm = 1 ∨ i.imm = 7 ∨ i.imm = 15)) ∨ i.op = 12 ∨ i.op = 14 ∨ i.op = 15) ∧ i.can = true
theorem reg_eq (n : Int) (h : 0 ≤ n ∧ n ≤ 7) : ref04_reg.spec [.int .i64 n] = some (.str (bs (regT n))) := by
  obtain ⟨k, rfl⟩ : ∃ k : Nat, n = k := ⟨n.toNat, by omega⟩
  have hn := Num_eq k (by omega)
  have hl := num_len k
  unfold regT
  rw [Int.toNat_natCast]
  generalize num k = l at *
  simp -implicitDefEqProofs +contextual (disch := omega) [ref04_reg.spec, ref04_reg, hn]
theorem imm_eq (n : Int) (h : 0 ≤ n ∧ n ≤ 100000) : ref04_imm.spec [.int .i64 n] = some (.str (bs (immT n))) := by
  obtain ⟨k, rfl⟩ : ∃ k : Nat, n = k := ⟨n.toNat, by omega⟩
  have hn := Num_eq k (by omega)
  have hl := num_len k
  unfold immT
  rw [Int.toNat_natCast]
  generalize num k = l at *
  simp -implicitDefEqProofs +contextual (disch := omega) [ref04_imm.spec, ref04_imm, hn]
theorem regT_len (n : Int) : (regT n).length ≤ 20 := by have := num_len n.toNat; simp [regT]; omega
theorem immT_len (n : Int) : (immT n).length ≤ 20 := by have := num_len n.toNat; simp [immT]; omega
def aluRows : List (List AV) := [[(.str (bs [97, 110, 100, 115]))], [(.str (bs [101, 111, 114, 115]))], [(.str (bs [108, 115, 108, 115]))], [(.str (bs [108, 115, 114, 115]))], [(.str (bs [97, 115, 114, 115]))], [(.str (bs [97, 100, 99, 115]))], [(.str (bs [115, 98, 99, 115]))], [(.str (bs [114, 111, 114, 115]))], [(.str (bs [116, 115, 116]))], [(.str (bs [114, 115, 98, 115]))], [(.str (bs [99, 109, 112]))], [(.str (bs [99, 109, 110]))], [(.str (bs [111, 114, 114, 115]))], [(.str (bs [109, 117, 108, 115]))], [(.str (bs [98, 105, 99, 115]))], [(.str (bs [109, 118, 110, 115]))]]
theorem build16 (H : AHeap) : abuildSliceR (some ⟨T.ty_string, 1, 16, [(.str (bs []))]⟩) 16 [(0, (.str (bs [97, 110, 100, 115]))), (1, (.str (bs [101, 111, 114, 115]))), (2, (.str (bs [108, 115, 108, 115]))), (3, (.str (bs [108, 115, 114, 115]))), (4, (.str (bs [97, 115, 114, 115]))), (5, (.str (bs [97, 100, 99, 115]))), (6, (.str (bs [115, 98, 99, 115]))), (7, (.str (bs [114, 111, 114, 115]))), (8, (.str (bs [116, 115, 116]))), (9, (.str (bs [114, 115, 98, 115]))), (10, (.str (bs [99, 109, 112]))), (11, (.str (bs [99, 109, 110]))), (12, (.str (bs [111, 114, 114, 115]))), (13, (.str (bs [109, 117, 108, 115]))), (14, (.str (bs [98, 105, 99, 115]))), (15, (.str (bs [109, 118, 110, 115])))] H = some (.sl H.next 1 0 16, H.push ⟨T.ty_string, 1, true, aluRows⟩) := rfl
theorem aluRows_0 : aluRows[0]? = some [.str (bs [97, 110, 100, 115])] := rfl
theorem aluRows_1 : aluRows[1]? = some [.str (bs [101, 111, 114, 115])] := rfl
theorem aluRows_7 : aluRows[7]? = some [.str (bs [114, 111, 114, 115])] := rfl
theorem aluRows_15 : aluRows[15]? = some [.str (bs [109, 118, 110, 115])] := rfl
theorem show_alu (op : Nat) (nm D M : List UInt8) (hn : aluRows[op]? = some [.str (bs nm)]) (hop : op < 16) (d n m : Int) (hD : D.length ≤ 30) (hM : M.length ≤ 30) (hnm : nm.length ≤ 10) (e3 : ref04_reg.spec [.int .i64 m] = some (.str (bs M))) (H : AHeap) (hw : H.WF)
    (h0 : H.get 0 = some ⟨T.ty_api_Ins, 5, true, [[.int .i64 11, .int .i64 d, .int .i64 n, .int .i64 m, .int .i64 op]]⟩) (v : AV) :
    ∃ H', ref04_Show.r14 ref04_reg.spec (AFr.al [(1, .ptr 0 5 0 0), (4, .str (bs D)), (5, .int .i64 11), (85, v)]) H = some (.normal, AFr.al [(2, .str (bs (nm ++ [32] ++ D ++ M))), (3, .bool true)], H') := by
  have b0 := hw _ _ h0
  simp only [ref04_Show.r14]
  rw [build16]
  generalize aluRows = R at *
  refine ⟨_, by simp -implicitDefEqProofs +contextual (disch := omega) [h0, hn, e3]; rfl⟩
theorem show_alu_of {op : Nat} {D M : List UInt8} {d n m : Int} {H : AHeap} {v : AV} {r : ARes} (hr : ref04_Show.r14 ref04_reg.spec (AFr.al [(1, .ptr 0 5 0 0), (4, .str (bs D)), (5, .int .i64 11), (85, v)]) H = r) (nm : List UInt8) (hn : aluRows[op]? = some [.str (bs nm)]) (hop : op < 16) (hD : D.length ≤ 30) (hM : M.length ≤ 30) (hnm : nm.length ≤ 10) (e3 : ref04_reg.spec [.int .i64 m] = some (.str (bs M))) (hw : H.WF)
    (h0 : H.get 0 = some ⟨T.ty_api_Ins, 5, true, [[.int .i64 11, .int .i64 d, .int .i64 n, .int .i64 m, .int .i64 op]]⟩) :
    ∃ H', r = some (.normal, AFr.al [(2, .str (bs (nm ++ [32] ++ D ++ M))), (3, .bool true)], H') := by
  subst hr; exact show_alu op nm D M hn hop d n m hD hM hnm e3 H hw h0 v
set_option maxHeartbeats 4000000 in
theorem Show_eq (i : InsM) (h : usedI i) : ref04_Show.spec [InsAV i] = some (.tup [.str (bs (showI i)), .bool true]) := by
  obtain ⟨hop, hcan⟩ := h
  have hc := rCan_eq i
  rw [hcan] at hc
  obtain ⟨⟨h0, h20⟩, l1, l2, l3, l4, l5, l6, l7, l8⟩ := (can_iff i).1 hcan
  obtain ⟨op, d, n, m, imm⟩ := i
  dsimp only at *
  simp only [InsAV] at *
  have rd := regT_len d
  have rn := regT_len n
  have rm := regT_len m
  have ri := immT_len imm
  have ri4 := immT_len (4 * imm)
  rcases hop with rfl | rfl | rfl | rfl | ⟨rfl, hi⟩ | rfl | rfl | rfl
  all_goals simp [shp, maxD, maxN, maxM, hasD, hasN, hasM] at l1 l2 l3 l4 l5 l6 l7 l8
  · have e1 := reg_eq d (by omega)
    have e2 := imm_eq imm (by omega)
    simp only [showI, csT, if_true]
    generalize regT d = D at *
    generalize immT imm = I at *
    simp -implicitDefEqProofs +contextual (disch := omega) [ref04_Show.spec, ref04_Show, hc, e1, e2]
  · have e1 := reg_eq d (by omega)
    have e2 := imm_eq imm (by omega)
    simp [showI, csT]
    generalize regT d = D at *
    generalize immT imm = I at *
    simp -implicitDefEqProofs +contextual (disch := omega) [ref04_Show.spec, ref04_Show, hc, e1, e2]
  · have e1 := reg_eq d (by omega)
    have e2 := imm_eq imm (by omega)
    have e3 := reg_eq m (by omega)
    simp [showI, csT]
    generalize regT d = D at *
    generalize regT m = M at *
    generalize immT imm = I at *
    simp -implicitDefEqProofs +contextual (disch := omega) [ref04_Show.spec, ref04_Show, hc, e1, e2, e3]
  · have e1 := reg_eq d (by omega)
    have e2 := imm_eq imm (by omega)
    have e3 := reg_eq m (by omega)
    simp [showI, csT]
    generalize regT d = D at *
    generalize regT m = M at *
    generalize immT imm = I at *
    simp -implicitDefEqProofs +contextual (disch := omega) [ref04_Show.spec, ref04_Show, hc, e1, e2, e3]
  · have e1 := reg_eq d (by omega)
    have e3 := reg_eq m (by omega)
    have hi' : ∃ k : Nat, imm = k ∧ k < 16 ∧ ∃ nm, aluRows[k]? = some [.str (bs nm)] ∧ nm.length ≤ 10 ∧ aluT k = nm := by
      rcases hi with rfl | rfl | rfl | rfl
      · exact ⟨0, rfl, by decide, _, aluRows_0, by decide, rfl⟩
      · exact ⟨1, rfl, by decide, _, aluRows_1, by decide, rfl⟩
      · exact ⟨7, rfl, by decide, _, aluRows_7, by decide, rfl⟩
      · exact ⟨15, rfl, by decide, _, aluRows_15, by decide, rfl⟩
    obtain ⟨k, rfl, hk, nm, q1, q2, q3⟩ := hi'
    have hsh : showI ⟨11, d, n, m, (k : Int)⟩ = nm ++ [32] ++ (regT d ++ csT) ++ regT m := by simp [showI, q3]
    rw [hsh]
    simp only [csT]
    generalize regT d = D at *
    generalize regT m = M at *
    simp -implicitDefEqProofs +contextual (disch := omega) [ref04_Show.spec, ref04_Show, hc, e1, -ref04_Show.r14]
    generalize hr : ref04_Show.r14 _ _ _ = r
    obtain ⟨H', rfl⟩ := show_alu_of (d := d) (n := n) hr nm q1 hk (by simp; omega) (by omega) q2 e3 (by (repeat' (first | assumption | with_reducible apply AHeap.WF.push | with_reducible apply AHeap.WF.set | with_reducible apply killAll_wf | exact AHeap.WF.empty)) <;> (simp <;> omega)) (by simp)
    simp -implicitDefEqProofs +contextual (disch := omega) []
  · have e1 := reg_eq d (by omega)
    have e2 := imm_eq (4 * imm) (by omega)
    have e3 := reg_eq n (by omega)
    simp [showI, csT]
    generalize regT d = D at *
    generalize regT n = M at *
    generalize immT (4 * imm) = I at *
    simp -implicitDefEqProofs +contextual (disch := omega) [ref04_Show.spec, ref04_Show, hc, e1, e2, e3]
  · have e1 := reg_eq d (by omega)
    have e2 := reg_eq n (by omega)
    have e3 := reg_eq m (by omega)
    simp [showI, csT]
    generalize regT d = D at *
    generalize regT n = N at *
    generalize regT m = M at *
    simp -implicitDefEqProofs +contextual (disch := omega) [ref04_Show.spec, ref04_Show, hc, e1, e2, e3]
  · have e1 := reg_eq d (by omega)
    have e2 := reg_eq n (by omega)
    have e3 := reg_eq m (by omega)
    simp [showI, csT]
    generalize regT d = D at *
    generalize regT n = N at *
    generalize regT m = M at *
    simp -implicitDefEqProofs +contextual (disch := omega) [ref04_Show.spec, ref04_Show, hc, e1, e2, e3]
end Go.Abs
end
section
set_option linter.unusedSimpArgs false
set_option linter.unusedVariables false
namespace Go.Abs
open Th
def strRows (l : List (List UInt8)) : List (List AV) := l.map fun s => [.str (bs s)]
@[simp] theorem strRows_length (l : List (List UInt8)) : (strRows l).length = l.length := by simp [strRows]
theorem strRows_append (a b : List (List UInt8)) : strRows a ++ strRows b = strRows (a ++ b) := by simp [strRows]
theorem strRows_get (l : List (List UInt8)) (k : Nat) (h : k < l.length) : (strRows l)[k]? = some [.str (bs l[k])] := by simp [strRows, h]
theorem strRows_all (l : List (List UInt8)) : (strRows l).take l.length = strRows l := List.take_of_length_le (by simp)
def linesI (l : List InsM) : List (List UInt8) := l.map showI
theorem linesI_append (a b : List InsM) : linesI (a ++ b) = linesI a ++ linesI b := by simp [linesI]
@[simp] theorem linesI_length (l : List InsM) : (linesI l).length = l.length := by simp [linesI]
theorem num_small : num 0 = [48] ∧ num 1 = [49] ∧ num 2 = [50] ∧ num 5 = [53] ∧ num 6 = [54] ∧ num 7 = [55] ∧ num 8 = [56] ∧ num 24 = [50, 52] ∧ num 32 = [51, 50] ∧ num 64 = [54, 52] := by decide +kernel
theorem atI_lines (n : Nat) : linesI (atI n) = if 4 * n < 256 then [[109, 111, 118, 115, 32, 114, 54, 44, 32, 35] ++ num (4 * n)] else
    [[109, 111, 118, 115, 32, 114, 54, 44, 32, 35] ++ num (4 * n / 256), [108, 115, 108, 115, 32, 114, 54, 44, 32, 114, 54, 44, 32, 35, 56], [97, 100, 100, 115, 32, 114, 54, 44, 32, 35] ++ num (4 * n % 256)] := by
  obtain ⟨n0, n1, n2, n5, n6, n7, n8, n24, n32, n64⟩ := num_small
  unfold atI
  split
  · simp only [linesI, List.map_cons, List.map_nil, showI, mvI, regT, immT, csT, if_true, Int.toNat_natCast]
    simp [n6]
  · simp only [linesI, List.map_cons, List.map_nil, showI, mvI, lfI, adI, regT, immT, csT, if_true, Int.toNat_natCast]
    simp [n6, n8]
theorem rSlot_eq (n : Nat) (h : n ≤ 16000) : ref25_Slot.spec [.int .i64 n] = some (.rsl 1 (strRows (linesI (atI n)))) := by
  rw [atI_lines]
  have h4 : 4 * (n : Int) = ((4 * n : Nat) : Int) := by omega
  have hn16 : (n : Int) ≤ 16000 := by omega
  generalize hm : 4 * n = m at *
  have hm2 : m ≤ 64000 := by omega
  by_cases hs : m < 256
  · rw [if_pos hs]
    have hs' : (m : Int) < 256 := by omega
    have e1 := Num_eq m (by omega)
    have hl := num_len m
    generalize num m = l at *
    simp -implicitDefEqProofs +contextual (disch := omega) [ref25_Slot.spec, ref25_Slot, h4, hs', e1, strRows]
  · rw [if_neg hs]
    have hs' : ¬ (m : Int) < 256 := by omega
    have e1 := Num_eq (m / 256) (by omega)
    have e2 := Num_eq (m % 256) (by omega)
    have hd : ((m / 256 : Nat) : Int) = (m : Int) / 256 := by omega
    have hr : ((m % 256 : Nat) : Int) = (m : Int) % 256 := by omega
    rw [hd] at e1
    rw [hr] at e2
    have hl := num_len (m / 256)
    have hl2 := num_len (m % 256)
    generalize num (m / 256) = l at *
    generalize num (m % 256) = l2 at *
    simp -implicitDefEqProofs +contextual (disch := omega) [ref25_Slot.spec, ref25_Slot, h4, hs', e1, e2, strRows]
theorem beginI_lines : linesI beginI = [[109, 111, 118, 115, 32, 114, 55, 44, 32, 35, 51, 50], [108, 115, 108, 115, 32, 114, 55, 44, 32, 114, 55, 44, 32, 35, 50, 52], [109, 111, 118, 115, 32, 114, 53, 44, 32, 35, 54, 52], [108, 115, 108, 115, 32, 114, 53, 44, 32, 114, 53, 44, 32, 35, 50, 52]] := by decide +kernel
end Go.Abs
end
section
set_option linter.unusedSimpArgs false
set_option linter.unusedVariables false
namespace Go.Abs
open Th
def UsedL (l : List InsM) : Prop := ∀ i ∈ l, usedI i
noncomputable abbrev ssL := ref25_Same.l0 ref04_Show.spec
theorem same25_loop (l : List InsM) (hu : UsedL l) (hl : l.length ≤ 1000000) (X : AHeap) {r}
    (hr : aloop ssL (AFr.al [(0, .rsl 5 (insRows l)), (1, .rsl 1 (strRows (linesI l))), (5, .int .i64 0)]) X = r) :
    ∃ e fr' X', r = some (e, fr', X') ∧ (e = .exit 0) := by
  refine run_of hr (aloop_each l.length (fun k fr H => ∃ y, fr = AFr.al ([(0, .rsl 5 (insRows l)), (1, .rsl 1 (strRows (linesI l))), (5, .int .i64 k)] ++ y)) _ (fun k hk fr H hR => ?_) (fun fr H hR => ?_) ⟨[], rfl⟩)
  · obtain ⟨y, rfl⟩ := hR
    have hk' : (k : Int) < l.length := by omega
    have hk1 : ((k + 1 : Nat) : Int) = (k : Int) + 1 := by omega
    have h1 := insRows_get l k hk
    have h2 : (strRows (linesI l))[k]? = some [.str (bs (showI l[k]))] := by simp [strRows, linesI, hk]
    have hS := Show_eq l[k] (hu _ (List.getElem_mem hk))
    rw [hk1]
    have hR1 : (insRows l).length = l.length := insRows_length l
    have hR2 : (strRows (linesI l)).length = l.length := by simp
    generalize insRows l = R1 at *
    generalize strRows (linesI l) = R2 at *
    generalize l[k] = i at *
    unfold InsAV at hS
    unfold insRow at h1
    generalize showI i = s at *
    refine ⟨_, _, _, by simp -implicitDefEqProofs +contextual (disch := omega) [ref25_Same.l0, hk', h1, h2, hS, hR1, hR2, -getElem?_pos]; first | rfl | exact ⟨rfl, rfl⟩ | exact ⟨rfl, rfl, rfl⟩, .inl ⟨rfl, _, rfl⟩⟩
  · obtain ⟨y, rfl⟩ := hR
    refine ⟨_, _, _, by simp -implicitDefEqProofs +contextual (disch := omega) [ref25_Same.l0]; first | rfl | exact ⟨rfl, rfl⟩ | exact ⟨rfl, rfl, rfl⟩, by simp, rfl⟩
theorem rSame_eq25 (l : List InsM) (hu : UsedL l) (hl : l.length ≤ 1000000) : ref25_Same.spec [.rsl 5 (insRows l), .rsl 1 (strRows (linesI l))] = some (.bool true) := by
  simp -implicitDefEqProofs +contextual (disch := omega) [ref25_Same.spec, ref25_Same]
  generalize hr : aloop _ _ _ = r
  obtain ⟨e, fr', X', rfl, rfl⟩ := same25_loop l hu hl _ hr
  simp -implicitDefEqProofs +contextual (disch := omega) []
end Go.Abs
end
section
set_option linter.unusedSimpArgs false
set_option linter.unusedVariables false
namespace Go.Abs
open Th
theorem can_k (k : Nat) (hk : k ≤ 20) (d n m imm : Int) (h : (shp k).low ≤ imm ∧ imm ≤ (shp k).high ∧ 0 ≤ d ∧ d ≤ maxD k ∧ 0 ≤ n ∧ n ≤ maxN k ∧ 0 ≤ m ∧ m ≤ maxM k) : (InsM.mk (k : Nat) d n m imm).can = true := (can_op k hk d n m imm).2 h
theorem used_mv (d n : Int) (hd : 0 ≤ d ∧ d ≤ 7) (hn : 0 ≤ n ∧ n ≤ 255) : usedI (mvI d n) :=
  ⟨.inl rfl, can_k 0 (by omega) d 0 0 n ⟨hn.1, hn.2, hd.1, hd.2, by decide, by decide, by decide, by decide⟩⟩
theorem used_ad (d n : Int) (hd : 0 ≤ d ∧ d ≤ 7) (hn : 0 ≤ n ∧ n ≤ 255) : usedI (adI d n) :=
  ⟨.inr (.inl rfl), can_k 2 (by omega) d 0 0 n ⟨hn.1, hn.2, hd.1, hd.2, by decide, by decide, by decide, by decide⟩⟩
theorem used_lf (d n : Int) (hd : 0 ≤ d ∧ d ≤ 7) (hn : 0 ≤ n ∧ n ≤ 31) : usedI (lfI d n) :=
  ⟨.inr (.inr (.inl rfl)), can_k 4 (by omega) d 0 d n ⟨hn.1, hn.2, hd.1, hd.2, by decide, by decide, hd.1, hd.2⟩⟩
theorem used_lsr (d n : Int) (hd : 0 ≤ d ∧ d ≤ 7) (hn : 1 ≤ n ∧ n ≤ 32) : usedI ⟨5, d, 0, d, n⟩ :=
  ⟨.inr (.inr (.inr (.inl rfl))), can_k 5 (by omega) d 0 d n ⟨hn.1, hn.2, hd.1, hd.2, by decide, by decide, hd.1, hd.2⟩⟩
theorem used_al (op d m : Int) (ho : op = 0 ∨ op = 1 ∨ op = 7 ∨ op = 15) (hd : 0 ≤ d ∧ d ≤ 7) (hm : 0 ≤ m ∧ m ≤ 7) : usedI (alI op d m) := by
  refine ⟨.inr (.inr (.inr (.inr (.inl ⟨rfl, ho⟩)))), can_k 11 (by omega) d 0 m op ⟨?_, ?_, hd.1, hd.2, by decide, by decide, hm.1, hm.2⟩⟩
  · show (0 : Int) ≤ op; omega
  · show op ≤ (15 : Int); omega
theorem used_ldi : usedI ⟨12, 0, 5, 0, 0⟩ := ⟨.inr (.inr (.inr (.inr (.inr (.inl rfl))))), by decide⟩
theorem used_ldr (r : Int) (hr : 0 ≤ r ∧ r ≤ 7) : usedI ⟨14, r, 7, 6, 0⟩ :=
  ⟨.inr (.inr (.inr (.inr (.inr (.inr (.inl rfl)))))), can_k 14 (by omega) r 7 6 0 ⟨by decide, by decide, hr.1, hr.2, by decide, by decide, by decide, by decide⟩⟩
theorem used_str : usedI ⟨15, 0, 7, 6, 0⟩ := ⟨.inr (.inr (.inr (.inr (.inr (.inr (.inr rfl)))))), by decide⟩
theorem UsedL.append {a b : List InsM} (ha : UsedL a) (hb : UsedL b) : UsedL (a ++ b) := fun i hi => (List.mem_append.1 hi).elim (ha i) (hb i)
theorem UsedL.one {i : InsM} (h : usedI i) : UsedL [i] := fun j hj => by rw [List.mem_singleton.1 hj]; exact h
theorem UsedL.cons {i : InsM} {l : List InsM} (h : usedI i) (hl : UsedL l) : UsedL (i :: l) := fun j hj => (List.mem_cons.1 hj).elim (fun e => e ▸ h) (hl j)
theorem UsedL.nil : UsedL [] := fun j hj => by simp at hj
theorem atI_used (n : Nat) (h : n ≤ 16000) : UsedL (atI n) := by
  unfold atI
  split
  · exact .one (used_mv _ _ (by omega) (by omega))
  · exact .cons (used_mv _ _ (by omega) (by omega)) (.cons (used_lf _ _ (by omega) (by omega)) (.one (used_ad _ _ (by omega) (by omega))))
theorem getI_used (r : Int) (hr : 0 ≤ r ∧ r ≤ 7) (n : Nat) (h : n ≤ 16000) : UsedL (getI r n) := (atI_used n h).append (.one (used_ldr r hr))
theorem putI_used (n : Nat) (h : n ≤ 16000) : UsedL (putI n) := (atI_used n h).append (.one used_str)
theorem beginI_used : UsedL beginI := .cons (used_mv _ _ (by decide) (by decide)) (.cons (used_lf _ _ (by decide) (by decide)) (.cons (used_mv _ _ (by decide) (by decide)) (.one (used_lf _ _ (by decide) (by decide)))))
theorem byteI_le (v : BitVec 32) (j : Nat) : byteI v j ≤ 255 := by
  unfold byteI
  rw [BitVec.toNat_and]
  exact Nat.and_le_right
theorem constUp_used (v : BitVec 32) : ∀ j, UsedL (constUp v j)
  | 0 => UsedL.nil
  | j + 1 => by
    have hb := byteI_le v j
    unfold constUp
    split
    · exact (constUp_used v j).append (.cons (used_lf _ _ (by decide) (by decide)) (.one (used_ad _ _ (by decide) (by omega))))
    · split
      · exact .one (used_mv _ _ (by decide) (by omega))
      · exact UsedL.nil
def numOk (o : OpM) : Prop := (o.k = 4 ∨ o.k = 5 ∨ o.k = 6) → o.n.toNat < 32
theorem doesI_used (o : OpM) (hn : numOk o) : UsedL (doesI o) := by
  unfold doesI numOk at *
  split
  · exact .one (used_al _ _ _ (by decide) (by decide) (by decide))
  split
  · exact .one (used_al _ _ _ (by decide) (by decide) (by decide))
  split
  · exact .one (used_al _ _ _ (by decide) (by decide) (by decide))
  split
  · rename_i h; have := hn (.inl h); exact .one (used_lf _ _ (by decide) (by omega))
  split
  · rename_i h
    have := hn (.inr (.inl h))
    split
    · exact .one (used_lf _ _ (by decide) (by decide))
    · rename_i h0
      have : o.n.toNat ≠ 0 := fun e => h0 (BitVec.eq_of_toNat_eq (by simpa using e))
      exact .one (used_lsr _ _ (by decide) (by omega))
  split
  · have : ((32#32 - o.n) % 32#32).toNat < 32 := by rw [BitVec.toNat_umod]; exact Nat.mod_lt _ (by decide)
    exact .cons (used_mv _ _ (by decide) (by omega)) (.one (used_al _ _ _ (by decide) (by decide) (by decide)))
  split
  · exact constUp_used _ _
  split
  · exact .one used_ldi
  · exact UsedL.nil
theorem regsI_used : ∀ (src : List Nat) (r : Int), 0 ≤ r → r + src.length ≤ 8 → (∀ x ∈ src, x ≤ 16000) → UsedL (regsI src r)
  | [], _, _, _, _ => UsedL.nil
  | x :: l, r, h0, h8, hx => by
    simp only [List.length_cons] at h8
    exact (getI_used r (by omega) x (hx x (by simp))).append (regsI_used l (r + 1) (by omega) (by omega) fun y hy => hx y (by simp [hy]))
theorem stepI_used (o : OpM) (hn : numOk o) (dst : Nat) (hd : dst ≤ 16000) (src : List Nat) (hs : src.length ≤ 8) (hx : ∀ x ∈ src, x ≤ 16000) : UsedL (stepI o dst src) := by
  refine (((UsedL.append ?_ (regsI_used src 0 (by decide) (by omega) hx)).append (doesI_used o hn)).append (putI_used dst hd))
  unfold headI
  refine .cons (used_mv _ _ (by decide) (by decide)) ?_
  split
  · exact .one (used_mv _ _ (by decide) (by decide))
  · exact UsedL.nil
theorem livesLines : linesI (stepI ⟨3, 0, 0, 0#32⟩ 1 [0]) = [[109, 111, 118, 115, 32, 114, 48, 44, 32, 35, 48], [109, 111, 118, 115, 32, 114, 54, 44, 32, 35, 48], [108, 100, 114, 32, 114, 48, 44, 32, 91, 114, 55, 44, 32, 114, 54, 93], [109, 118, 110, 115, 32, 114, 48, 44, 32, 114, 48], [109, 111, 118, 115, 32, 114, 54, 44, 32, 35, 52], [115, 116, 114, 32, 114, 48, 44, 32, 91, 114, 55, 44, 32, 114, 54, 93]] := by decide +kernel
theorem lives25 : law25_lives.spec [] = some (.bool true) := by
  have hS := EStep_eq ⟨3, 0, 0, 0#32⟩ 1 [0] (by decide)
  rw [if_pos (show fitsI ⟨3, 0, 0, 0#32⟩ 1 [0] = true by decide +kernel)] at hS
  rw [show (1 : Int).toNat = 1 from rfl, show ([0] : List Int).map Int.toNat = [0] from rfl] at hS
  have hM := rSame_eq25 (stepI ⟨3, 0, 0, 0#32⟩ 1 [0]) (stepI_used _ (fun h => by simp at h) 1 (by decide) [0] (by decide) (by decide)) (by decide +kernel)
  rw [livesLines] at hM
  unfold OpM.cells at hS
  simp only [ints, List.map_cons, List.map_nil] at hS
  generalize stepI ⟨3, 0, 0, 0#32⟩ 1 [0] = L at *
  simp only [strRows, List.map_cons, List.map_nil] at hM
  simp -implicitDefEqProofs +contextual (disch := omega) [law25_lives.spec, law25_lives, hS, hM]
end Go.Abs
end
