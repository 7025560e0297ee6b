/-
  Code of steps: a round.
-/
import Derived.Test.YteohnepdbjmghaaE20
import Derived.Test.YteohnepdbjmghaaJC
set_option linter.unusedSimpArgs false
set_option linter.unusedVariables false
namespace Go.Abs
open Th
theorem stepI_le (o : OpM) (dst : Nat) (src : List Nat) (hs : src.length ≤ 2) : (stepI o dst src).length ≤ 22 := by
  have h1 := doesI_len o
  have h2 := putI_len dst
  unfold stepI headI
  match src, hs with
  | [], _ => simp [regsI]; omega
  | [x], _ => have := getI_len 0 x; simp [regsI]; omega
  | [x, y], _ => have := getI_len 0 x; have := getI_len 1 y; simp [regsI]; omega
def srcI (m : List Nat) (o : OpM) : List Nat := (if 0 < takesI o.k then [m.getD o.a.toNat 0] else []) ++ (if 1 < takesI o.k then [m.getD o.b.toNat 0] else [])
theorem srcI_len (m : List Nat) (o : OpM) : (srcI m o).length ≤ 2 := by unfold srcI; split <;> split <;> simp
theorem getD_le (m : List Nat) (hm : ∀ x ∈ m, x ≤ 16000) (k : Nat) : m.getD k 0 ≤ 16000 := by
  rw [List.getD_eq_getElem?_getD]
  by_cases h : k < m.length
  · rw [List.getElem?_eq_getElem h]; exact hm _ (List.getElem_mem h)
  · rw [List.getElem?_eq_none (by omega)]; simp
theorem srcI_le (m : List Nat) (hm : ∀ x ∈ m, x ≤ 16000) (o : OpM) : ∀ x ∈ srcI m o, x ≤ 16000 := by
  intro x hx
  unfold srcI at hx
  rw [List.mem_append] at hx
  rcases hx with hx | hx
  · split at hx
    · rw [List.mem_singleton.1 hx]; exact getD_le m hm _
    · simp at hx
  · split at hx
    · rw [List.mem_singleton.1 hx]; exact getD_le m hm _
    · simp at hx
def iz (m : List Nat) : List Int := m.map fun x : Nat => (x : Int)
@[simp] theorem iz_length (m : List Nat) : (iz m).length = m.length := by simp [iz]
theorem iz_get (m : List Nat) (k : Nat) (h : k < m.length) : (ints (iz m))[k]? = some [.int .i64 (m.getD k 0 : Nat)] := by
  simp [ints, iz, h, List.getD_eq_getElem?_getD]
noncomputable abbrev ecL0 := emit_Code.l0 isw_Can.spec slices_ContainsFunc_int.spec emit_Begin.spec emit_halves.spec emit_takes.spec emit_step.spec
def ecFr (c : CodeM) (m : List Nat) (v : AV) (k : Nat) (y : List (Nat × AV)) : AFr :=
  AFr.al ([(1, .rsl 1 (ints (iz m))), (2, .ptr 0 3 0 0), (6, v), (33, .rsl 4 (opRows c.ops)), (34, .int .i64 c.ops.length), (35, .int .i64 k)] ++ y)
theorem HV_len {ws v H} (h : HV ws v H) : alenR .sl v = some (.int .i64 ws.length) := by
  rcases h with ⟨rfl, rfl⟩ | ⟨ob, rfl, _⟩ <;> rfl
theorem HV_keep {ws v H} (h : HV ws v H) {X : AHeap} (hx : ∀ b blk, H.get b = some blk → X.get b = some blk) : HV ws v X := by
  rcases h with h | ⟨ob, rfl, g⟩
  · exact .inl h
  · exact .inr ⟨ob, rfl, hx _ _ g⟩
set_option maxHeartbeats 4000000 in
theorem ec_round (c : CodeM) (n : Nat) (hn : c.inN = n) (m : List Nat) (hm : ∀ x ∈ m, x ≤ 16000) (hml : m.length = n + c.ops.length) (hop : c.ops.length ≤ 1000) (hin : n ≤ 4000) (k : Nat) (hk : k < c.ops.length) (hok : c.ops[k].ok (n + k : Nat) = true)
    (ws : List (BitVec 16)) (hws : ws.length ≤ 50000) (v : AV) (H : AHeap) (y : List (Nat × AV)) (hw : H.WF) (h0 : H.get 0 = some (codeBlk c)) (h0' : NotAt 0 v) (hv : HV ws v H) :
    ∃ v' H' y', ecL0 (ecFr c m v k y) H = some (.normal, ecFr c m v' (k + 1) y', H') ∧ HV (ws ++ hlfs (stepI c.ops[k] (m.getD (n + k) 0) (srcI m c.ops[k]))) v' H' ∧ H'.WF ∧ H'.get 0 = some (codeBlk c) ∧ NotAt 0 v' := by
  have hk' : (k : Int) < c.ops.length := by omega
  have hk1 : ((k + 1 : Nat) : Int) = (k : Int) + 1 := by omega
  have hrow := opRows_get c.ops k hk
  have h0b := hw _ _ h0
  have hT := etakes_eq c.ops[k].k
  have htk : (if c.ops[k].k = 1 ∨ c.ops[k].k = 2 then (2 : Int) else if c.ops[k].k = 0 ∨ c.ops[k].k = 7 then 0 else 1) = takesI c.ops[k].k := rfl
  rw [htk] at hT
  have hS := estep_eq c.ops[k] (m.getD (n + k) 0) (getD_le m hm _) (srcI m c.ops[k]) (srcI_len m _) (srcI_le m hm _)
  have hnk : (n : Int) + k = ((n + k : Nat) : Int) := by omega
  have hgk := iz_get m (n + k) (by omega)
  rw [codeBlk_eq, hn] at h0
  simp only [codeBlk_eq, hn]
  have hOl : (opRows c.ops).length = c.ops.length := opRows_length _
  have hIl : (ints (iz m)).length = m.length := by simp
  unfold OpM.ok at hok
  simp only [Bool.and_eq_true, decide_eq_true_eq] at hok
  obtain ⟨⟨⟨⟨q1, q2⟩, q3⟩, q4⟩, q5⟩ := hok
  have hta : 0 < takesI c.ops[k].k → ∃ A : Nat, c.ops[k].a = A ∧ A < m.length := fun h => by
    have : 0 < takesM c.ops[k].k := by
      have : takesM c.ops[k].k = takesI c.ops[k].k := by unfold takesM takesI; repeat' split <;> omega
      omega
    simp [wireM, this] at q4
    exact ⟨c.ops[k].a.toNat, by omega, by omega⟩
  have htb : 1 < takesI c.ops[k].k → ∃ B : Nat, c.ops[k].b = B ∧ B < m.length := fun h => by
    have : 1 < takesM c.ops[k].k := by
      have : takesM c.ops[k].k = takesI c.ops[k].k := by unfold takesM takesI; repeat' split <;> omega
      omega
    simp [wireM, this] at q5
    exact ⟨c.ops[k].b.toNat, by omega, by omega⟩
  have hts := takesI_le c.ops[k].k
  have hSl := stepI_le c.ops[k] (m.getD (n + k) 0) (srcI m c.ops[k]) (srcI_len m _)
  unfold ecFr
  clear q1 q2 q3 q4 q5 htk
  generalize hN : n + k = N at *
  generalize hL : stepI c.ops[k] (m.getD N 0) (srcI m c.ops[k]) = L at *
  generalize c.ops[k] = o at *
  obtain ⟨ok, oa, ob, on⟩ := o
  simp only [OpM.cells] at hrow hS
  dsimp only at hta htb hts hT
  have hc : takesI ok = 0 ∨ takesI ok = 1 ∨ takesI ok = 2 := by
    have h0 : 0 ≤ takesI ok := by unfold takesI; repeat' split <;> omega
    omega
  rcases hc with hc | hc | hc
  · rw [hc] at hT hta htb
    have hsr : srcI m ⟨ok, oa, ob, on⟩ = [] := by simp [srcI, hc]
    rw [hsr] at hS
    simp only [List.map_nil, List.map_cons, ints] at hS
    generalize m.getD N 0 = z at *
    generalize ints (iz m) = I at *
    generalize opRows c.ops = R at *
    generalize hr : ecL0 _ H = r
    simp -implicitDefEqProofs +contextual (disch := omega) [emit_Code.l0, hk', hrow, hOl, h0, aloop_unroll, emit_Code.l1, hT, hnk, hgk, hIl, hS, -getElem?_pos] at hr
    generalize hq : emit_halves.spec _ _ = q at hr
    obtain ⟨v', H', rfl, p1, p2⟩ := halves_of hq (by omega) ws (by omega) (by (repeat' (first | assumption | with_reducible apply AHeap.WF.push | with_reducible apply AHeap.WF.set | with_reducible apply killAll_wf | exact AHeap.WF.empty)) <;> (simp <;> omega)) (HV_keep hv fun b blk hb => by have := hw _ _ hb; simp (disch := omega) [hb])
    have hlv := HV_len p1
    rw [san_wf p2.1 p2.2.1] at hr
    have hlw : (ws ++ hlfs L).length = ws.length + L.length := by simp
    rw [hlw] at hlv
    simp -implicitDefEqProofs +contextual (disch := omega) [hlv] at hr
    subst hr
    obtain ⟨g1, g2⟩ := p2.2.2 0 _ (by simp (disch := omega) [h0]; rfl) h0'
    refine ⟨v', H', _, by rw [hk1]; rfl, p1, p2.1, g1, g2⟩
  · rw [hc] at hT hta htb
    obtain ⟨A, rfl, hA⟩ := hta (by omega)
    have hga := iz_get m A hA
    have hsr : srcI m ⟨ok, A, ob, on⟩ = [m.getD A 0] := by simp [srcI, hc]
    rw [hsr] at hS
    simp only [List.map_nil, List.map_cons, ints] at hS
    generalize m.getD N 0 = z at *
    generalize m.getD A 0 = x at *
    generalize ints (iz m) = I at *
    generalize opRows c.ops = R at *
    generalize hr : ecL0 _ H = r
    simp -implicitDefEqProofs +contextual (disch := omega) [emit_Code.l0, hk', hrow, hOl, h0, aloop_unroll, emit_Code.l1, hT, hnk, hgk, hIl, hS, hga, hA, -getElem?_pos] at hr
    generalize hq : emit_halves.spec _ _ = q at hr
    obtain ⟨v', H', rfl, p1, p2⟩ := halves_of hq (by omega) ws (by omega) (by (repeat' (first | assumption | with_reducible apply AHeap.WF.push | with_reducible apply AHeap.WF.set | with_reducible apply killAll_wf | exact AHeap.WF.empty)) <;> (simp <;> omega)) (HV_keep hv fun b blk hb => by have := hw _ _ hb; simp (disch := omega) [hb])
    have hlv := HV_len p1
    rw [san_wf p2.1 p2.2.1] at hr
    have hlw : (ws ++ hlfs L).length = ws.length + L.length := by simp
    rw [hlw] at hlv
    simp -implicitDefEqProofs +contextual (disch := omega) [hlv] at hr
    subst hr
    obtain ⟨g1, g2⟩ := p2.2.2 0 _ (by simp (disch := omega) [h0]; rfl) h0'
    refine ⟨v', H', _, by rw [hk1]; rfl, p1, p2.1, g1, g2⟩
  · rw [hc] at hT hta htb
    obtain ⟨A, rfl, hA⟩ := hta (by omega)
    have hga := iz_get m A hA
    obtain ⟨B, rfl, hB⟩ := htb (by omega)
    have hgb := iz_get m B hB
    have hsr : srcI m ⟨ok, A, B, on⟩ = [m.getD A 0, m.getD B 0] := by simp [srcI, hc]
    rw [hsr] at hS
    simp only [List.map_nil, List.map_cons, ints] at hS
    generalize m.getD N 0 = z at *
    generalize m.getD A 0 = x at *
    generalize m.getD B 0 = x2 at *
    have hB' := hB
    generalize ints (iz m) = I at *
    generalize opRows c.ops = R at *
    generalize hr : ecL0 _ H = r
    simp -implicitDefEqProofs +contextual (disch := omega) [emit_Code.l0, hk', hrow, hOl, h0, aloop_unroll, emit_Code.l1, hT, hnk, hgk, hIl, hS, hga, hgb, hA, hB, -getElem?_pos] at hr
    generalize hq : emit_halves.spec _ _ = q at hr
    obtain ⟨v', H', rfl, p1, p2⟩ := halves_of hq (by omega) ws (by omega) (by (repeat' (first | assumption | with_reducible apply AHeap.WF.push | with_reducible apply AHeap.WF.set | with_reducible apply killAll_wf | exact AHeap.WF.empty)) <;> (simp <;> omega)) (HV_keep hv fun b blk hb => by have := hw _ _ hb; simp (disch := omega) [hb])
    have hlv := HV_len p1
    rw [san_wf p2.1 p2.2.1] at hr
    have hlw : (ws ++ hlfs L).length = ws.length + L.length := by simp
    rw [hlw] at hlv
    simp -implicitDefEqProofs +contextual (disch := omega) [hlv] at hr
    subst hr
    obtain ⟨g1, g2⟩ := p2.2.2 0 _ (by simp (disch := omega) [h0]; rfl) h0'
    refine ⟨v', H', _, by rw [hk1]; rfl, p1, p2.1, g1, g2⟩
end Go.Abs
