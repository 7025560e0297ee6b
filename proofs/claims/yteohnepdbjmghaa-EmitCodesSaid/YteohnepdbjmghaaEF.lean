import Derived.Test.YteohnepdbjmghaaEC
import Derived.Test.YteohnepdbjmghaaTp
import Derived.Test.YteohnepdbjmghaaSA
import Derived.Test.YteohnepdbjmghaaJC
section
set_option linter.unusedSimpArgs false
set_option linter.unusedVariables false
namespace Go.Abs
open Th
def hlfs (l : List InsM) : List (BitVec 16) := l.map fun i => (putM i).1
@[simp] theorem hlfs_length (l : List InsM) : (hlfs l).length = l.length := by simp [hlfs]
theorem hlfs_append (a b : List InsM) : hlfs (a ++ b) = hlfs a ++ hlfs b := by simp [hlfs]
def HV (ws : List (BitVec 16)) (v : AV) (H : AHeap) : Prop := (ws = [] ∧ v = .nils) ∨ ∃ ob, v = .sl ob 1 0 ws.length ∧ H.get ob = some ⟨T.ty_uint16, 1, true, w16s ws⟩
def NotAt (p : Nat) (v : AV) : Prop := ∀ n, v ≠ .sl p 1 0 n
def Kp (v : AV) (H : AHeap) (v' : AV) (H' : AHeap) : Prop := H'.WF ∧ H.next ≤ H'.next ∧ ∀ p blk, H.get p = some blk → NotAt p v → H'.get p = some blk ∧ NotAt p v'
theorem Kp.trans {v H v1 H1 v2 H2} (a : Kp v H v1 H1) (b : Kp v1 H1 v2 H2) : Kp v H v2 H2 :=
  ⟨b.1, Nat.le_trans a.2.1 b.2.1, fun p blk hp hn => b.2.2 p blk (a.2.2 p blk hp hn).1 (a.2.2 p blk hp hn).2⟩
noncomputable abbrev hvL := emit_halves.l0 thumb_Put.spec
def hvFr (v : AV) (l : List InsM) (k : Nat) (y : List (Nat × AV)) : AFr := AFr.al ([(0, v), (9, .rsl 5 (insRows l)), (10, .int .i64 l.length), (11, .int .i64 k)] ++ y)
theorem hv_round (l : List InsM) (hl : l.length ≤ 1000) (k : Nat) (hk : k < l.length) (ws : List (BitVec 16)) (hws : ws.length ≤ 1000000) (v : AV) (H : AHeap) (y : List (Nat × AV)) (hw : H.WF) (hv : HV ws v H) :
    ∃ v' H' y', hvL (hvFr v l k y) H = some (.normal, hvFr v' l (k + 1) y', H') ∧ HV (ws ++ [(putM l[k]).1]) v' H' ∧ Kp v H v' H' := by
  have hk' : (k : Int) < l.length := by omega
  have hk1 : ((k + 1 : Nat) : Int) = (k : Int) + 1 := by omega
  have h1 := insRows_get l k hk
  have hP := Put_eq l[k]
  unfold hvFr
  have hR1 : (insRows l).length = l.length := insRows_length l
  generalize insRows l = R1 at *
  generalize l[k] = i at *
  unfold InsAV at hP
  unfold insRow at h1
  generalize (putM i).1 = h at *
  generalize (putM i).2 = e at *
  rcases hv with ⟨rfl, rfl⟩ | ⟨ob, rfl, gb⟩
  · refine ⟨?_, ?_, ?_, ?_, ?_, ?_⟩
    rotate_left 3
    · simp -implicitDefEqProofs +contextual (disch := try first | omega | assumption | (simp; done)) [emit_halves.l0, hk', hk1, h1, hP, hR1, -getElem?_pos]
      constructor <;> rfl
    · exact .inr ⟨_, rfl, by simp [w16s]⟩
    · refine ⟨by (repeat' (first | assumption | with_reducible apply AHeap.WF.push | with_reducible apply AHeap.WF.set | with_reducible apply killAll_wf | exact AHeap.WF.empty)) <;> (simp <;> omega), by simp; omega, fun p blk hp hn => ?_⟩
      have := hw _ _ hp
      refine ⟨by simp (disch := omega) [hp], fun n e => ?_⟩
      injection e with e1
      omega
  · have hob := hw _ _ gb
    refine ⟨?_, ?_, ?_, ?_, ?_, ?_⟩
    rotate_left 3
    · simp -implicitDefEqProofs +contextual (disch := try first | omega | assumption | (simp; done)) [emit_halves.l0, hk', hk1, h1, hP, hR1, gb, -getElem?_pos]
      constructor <;> rfl
    · exact .inr ⟨_, by simp; rfl, by simp [w16s_snoc]⟩
    · refine ⟨by (repeat' (first | assumption | with_reducible apply AHeap.WF.push | with_reducible apply AHeap.WF.set | with_reducible apply killAll_wf | exact AHeap.WF.empty)) <;> (simp <;> omega), by simp; omega, fun p blk hp hn => ?_⟩
      have := hw _ _ hp
      have hpo : ¬ p = ob := fun e => hn ws.length (by rw [e])
      refine ⟨by simp (disch := omega) [hp, hpo], fun n e => ?_⟩
      injection e with e1
      omega
theorem hv_loop (l : List InsM) (hl : l.length ≤ 1000) (ws : List (BitVec 16)) (hws : ws.length ≤ 900000) (v : AV) (H : AHeap) (hw : H.WF) (hv : HV ws v H) {r} (hr : aloop hvL (hvFr v l 0 []) H = r) :
    ∃ e fr' X', r = some (e, fr', X') ∧ (e = .exit 0 ∧ HV (ws ++ hlfs l) (fr' 0) X' ∧ Kp v H (fr' 0) X') := by
  refine run_of hr (aloop_each l.length (fun k fr X => ∃ y v', fr = hvFr v' l k y ∧ HV (ws ++ hlfs (l.take k)) v' X ∧ Kp v H v' X) _ (fun k hk fr X hR => ?_) (fun fr X hR => ?_) ⟨[], v, rfl, by simpa [hlfs] using hv, hw, Nat.le_refl _, fun p blk hp hn => ⟨hp, hn⟩⟩)
  · obtain ⟨y, v', rfl, q1, q2⟩ := hR
    obtain ⟨v2, H2, y2, s1, s2, s3⟩ := hv_round l hl k hk (ws ++ hlfs (l.take k)) (by simp; omega) v' X y q2.1 q1
    refine ⟨_, _, _, s1, .inl ⟨rfl, y2, v2, rfl, ?_, q2.trans s3⟩⟩
    rw [List.take_succ_eq_append_getElem hk, hlfs_append, ← List.append_assoc]
    exact s2
  · obtain ⟨y, v', rfl, q1, q2⟩ := hR
    rw [List.take_length] at q1
    refine ⟨_, _, _, by simp -implicitDefEqProofs +contextual (disch := omega) [emit_halves.l0, hvFr]; first | rfl | exact ⟨rfl, rfl⟩ | exact ⟨rfl, rfl, rfl⟩, by simp, rfl, by simpa [hvFr] using q1, by simpa [hvFr] using q2⟩
theorem halves_eq (l : List InsM) (hl : l.length ≤ 1000) (ws : List (BitVec 16)) (hws : ws.length ≤ 900000) (v : AV) (H : AHeap) (hw : H.WF) (hv : HV ws v H) :
    ∃ v' H', emit_halves.spec [v, .rsl 5 (insRows l)] H = some (v', H') ∧ HV (ws ++ hlfs l) v' H' ∧ Kp v H v' H' := by
  have hrl := insRows_length l
  obtain ⟨e, fr', X', h1, rfl, h2, h3⟩ := hv_loop l hl ws hws v H hw hv rfl
  refine ⟨fr' 0, X', ?_, h2, h3⟩
  simp -implicitDefEqProofs +contextual (disch := omega) [emit_halves.spec, emit_halves, hrl]
  generalize hr : aloop _ _ _ = r
  have : r = some (.exit 0, fr', X') := hr.symm.trans h1
  subst this
  simp -implicitDefEqProofs +contextual (disch := omega) []
theorem halves_of {v : AV} {H : AHeap} {l : List InsM} {r : Option (AV × AHeap)} (hr : emit_halves.spec [v, .rsl 5 (insRows l)] H = r) (hl : l.length ≤ 1000) (ws : List (BitVec 16)) (hws : ws.length ≤ 900000) (hw : H.WF) (hv : HV ws v H) :
    ∃ v' H', r = some (v', H') ∧ HV (ws ++ hlfs l) v' H' ∧ Kp v H v' H' := by
  subst hr; exact halves_eq l hl ws hws v H hw hv
end Go.Abs
end
section
set_option linter.unusedSimpArgs false
set_option linter.unusedVariables false
namespace Go.Abs
open Th
theorem stepI_le (o : OpM) (dst : Nat) (src : List Nat) (hs : src.length ≤ 2) : (stepI o dst src).length ≤ 22 := by
  have h1 := doesI_len o
  have h2 := putI_len dst
  unfold stepI headI
  match src, hs with
  | [], _ => simp [regsI]; omega
  | [x], _ => have := getI_len 0 x; simp [regsI]; omega
  | [x, y], _ => have := getI_len 0 x; have := getI_len 1 y; simp [regsI]; omega
def srcI (m : List Nat) (o : OpM) : List Nat := (if 0 < takesI o.k then [m.getD o.a.toNat 0] else []) ++ (if 1 < takesI o.k then [m.getD o.b.toNat 0] else [])
theorem srcI_len (m : List Nat) (o : OpM) : (srcI m o).length ≤ 2 := by unfold srcI; split <;> split <;> simp
theorem getD_le (m : List Nat) (hm : ∀ x ∈ m, x ≤ 16000) (k : Nat) : m.getD k 0 ≤ 16000 := by
  rw [List.getD_eq_getElem?_getD]
  by_cases h : k < m.length
  · rw [List.getElem?_eq_getElem h]; exact hm _ (List.getElem_mem h)
  · rw [List.getElem?_eq_none (by omega)]; simp
theorem srcI_le (m : List Nat) (hm : ∀ x ∈ m, x ≤ 16000) (o : OpM) : ∀ x ∈ srcI m o, x ≤ 16000 := by
  intro x hx
  unfold srcI at hx
  rw [List.mem_append] at hx
  rcases hx with hx | hx
  · split at hx
    · rw [List.mem_singleton.1 hx]; exact getD_le m hm _
    · simp at hx
  · split at hx
    · rw [List.mem_singleton.1 hx]; exact getD_le m hm _
    · simp at hx
def iz (m : List Nat) : List Int := m.map fun x : Nat => (x : Int)
@[simp] theorem iz_length (m : List Nat) : (iz m).length = m.length := by simp [iz]
theorem iz_get (m : List Nat) (k : Nat) (h : k < m.length) : (ints (iz m))[k]? = some [.int .i64 (m.getD k 0 : Nat)] := by
  simp [ints, iz, h, List.getD_eq_getElem?_getD]
noncomputable abbrev ecL0 := emit_Code.l0 isw_Can.spec slices_ContainsFunc_int.spec emit_Begin.spec emit_halves.spec emit_takes.spec emit_step.spec
def ecFr (c : CodeM) (m : List Nat) (v : AV) (k : Nat) (y : List (Nat × AV)) : AFr :=
  AFr.al ([(1, .rsl 1 (ints (iz m))), (2, .ptr 0 3 0 0), (6, v), (33, .rsl 4 (opRows c.ops)), (34, .int .i64 c.ops.length), (35, .int .i64 k)] ++ y)
theorem HV_len {ws v H} (h : HV ws v H) : alenR .sl v = some (.int .i64 ws.length) := by
  rcases h with ⟨rfl, rfl⟩ | ⟨ob, rfl, _⟩ <;> rfl
theorem HV_keep {ws v H} (h : HV ws v H) {X : AHeap} (hx : ∀ b blk, H.get b = some blk → X.get b = some blk) : HV ws v X := by
  rcases h with h | ⟨ob, rfl, g⟩
  · exact .inl h
  · exact .inr ⟨ob, rfl, hx _ _ g⟩
set_option maxHeartbeats 4000000 in
theorem ec_round (c : CodeM) (n : Nat) (hn : c.inN = n) (m : List Nat) (hm : ∀ x ∈ m, x ≤ 16000) (hml : m.length = n + c.ops.length) (hop : c.ops.length ≤ 1000) (hin : n ≤ 4000) (k : Nat) (hk : k < c.ops.length) (hok : c.ops[k].ok (n + k : Nat) = true)
    (ws : List (BitVec 16)) (hws : ws.length ≤ 50000) (v : AV) (H : AHeap) (y : List (Nat × AV)) (hw : H.WF) (h0 : H.get 0 = some (codeBlk c)) (h0' : NotAt 0 v) (hv : HV ws v H) :
    ∃ v' H' y', ecL0 (ecFr c m v k y) H = some (.normal, ecFr c m v' (k + 1) y', H') ∧ HV (ws ++ hlfs (stepI c.ops[k] (m.getD (n + k) 0) (srcI m c.ops[k]))) v' H' ∧ H'.WF ∧ H'.get 0 = some (codeBlk c) ∧ NotAt 0 v' := by
  have hk' : (k : Int) < c.ops.length := by omega
  have hk1 : ((k + 1 : Nat) : Int) = (k : Int) + 1 := by omega
  have hrow := opRows_get c.ops k hk
  have h0b := hw _ _ h0
  have hT := etakes_eq c.ops[k].k
  have htk : (if c.ops[k].k = 1 ∨ c.ops[k].k = 2 then (2 : Int) else if c.ops[k].k = 0 ∨ c.ops[k].k = 7 then 0 else 1) = takesI c.ops[k].k := rfl
  rw [htk] at hT
  have hS := estep_eq c.ops[k] (m.getD (n + k) 0) (getD_le m hm _) (srcI m c.ops[k]) (srcI_len m _) (srcI_le m hm _)
  have hnk : (n : Int) + k = ((n + k : Nat) : Int) := by omega
  have hgk := iz_get m (n + k) (by omega)
  rw [codeBlk_eq, hn] at h0
  simp only [codeBlk_eq, hn]
  have hOl : (opRows c.ops).length = c.ops.length := opRows_length _
  have hIl : (ints (iz m)).length = m.length := by simp
  unfold OpM.ok at hok
  simp only [Bool.and_eq_true, decide_eq_true_eq] at hok
  obtain ⟨⟨⟨⟨q1, q2⟩, q3⟩, q4⟩, q5⟩ := hok
  have hta : 0 < takesI c.ops[k].k → ∃ A : Nat, c.ops[k].a = A ∧ A < m.length := fun h => by
    have : 0 < takesM c.ops[k].k := by
      have : takesM c.ops[k].k = takesI c.ops[k].k := by unfold takesM takesI; repeat' split <;> omega
      omega
    simp [wireM, this] at q4
    exact ⟨c.ops[k].a.toNat, by omega, by omega⟩
  have htb : 1 < takesI c.ops[k].k → ∃ B : Nat, c.ops[k].b = B ∧ B < m.length := fun h => by
    have : 1 < takesM c.ops[k].k := by
      have : takesM c.ops[k].k = takesI c.ops[k].k := by unfold takesM takesI; repeat' split <;> omega
      omega
    simp [wireM, this] at q5
    exact ⟨c.ops[k].b.toNat, by omega, by omega⟩
  have hts := takesI_le c.ops[k].k
  have hSl := stepI_le c.ops[k] (m.getD (n + k) 0) (srcI m c.ops[k]) (srcI_len m _)
  unfold ecFr
  clear q1 q2 q3 q4 q5 htk
  generalize hN : n + k = N at *
  generalize hL : stepI c.ops[k] (m.getD N 0) (srcI m c.ops[k]) = L at *
  generalize c.ops[k] = o at *
  obtain ⟨ok, oa, ob, on⟩ := o
  simp only [OpM.cells] at hrow hS
  dsimp only at hta htb hts hT
  have hc : takesI ok = 0 ∨ takesI ok = 1 ∨ takesI ok = 2 := by
    have h0 : 0 ≤ takesI ok := by unfold takesI; repeat' split <;> omega
    omega
  rcases hc with hc | hc | hc
  · rw [hc] at hT hta htb
    have hsr : srcI m ⟨ok, oa, ob, on⟩ = [] := by simp [srcI, hc]
    rw [hsr] at hS
    simp only [List.map_nil, List.map_cons, ints] at hS
    generalize m.getD N 0 = z at *
    generalize ints (iz m) = I at *
    generalize opRows c.ops = R at *
    generalize hr : ecL0 _ H = r
    simp -implicitDefEqProofs +contextual (disch := omega) [emit_Code.l0, hk', hrow, hOl, h0, aloop_unroll, emit_Code.l1, hT, hnk, hgk, hIl, hS, -getElem?_pos] at hr
    generalize hq : emit_halves.spec _ _ = q at hr
    obtain ⟨v', H', rfl, p1, p2⟩ := halves_of hq (by omega) ws (by omega) (by (repeat' (first | assumption | with_reducible apply AHeap.WF.push | with_reducible apply AHeap.WF.set | with_reducible apply killAll_wf | exact AHeap.WF.empty)) <;> (simp <;> omega)) (HV_keep hv fun b blk hb => by have := hw _ _ hb; simp (disch := omega) [hb])
    have hlv := HV_len p1
    rw [san_wf p2.1 p2.2.1] at hr
    have hlw : (ws ++ hlfs L).length = ws.length + L.length := by simp
    rw [hlw] at hlv
    simp -implicitDefEqProofs +contextual (disch := omega) [hlv] at hr
    subst hr
    obtain ⟨g1, g2⟩ := p2.2.2 0 _ (by simp (disch := omega) [h0]; rfl) h0'
    refine ⟨v', H', _, by rw [hk1]; rfl, p1, p2.1, g1, g2⟩
  · rw [hc] at hT hta htb
    obtain ⟨A, rfl, hA⟩ := hta (by omega)
    have hga := iz_get m A hA
    have hsr : srcI m ⟨ok, A, ob, on⟩ = [m.getD A 0] := by simp [srcI, hc]
    rw [hsr] at hS
    simp only [List.map_nil, List.map_cons, ints] at hS
    generalize m.getD N 0 = z at *
    generalize m.getD A 0 = x at *
    generalize ints (iz m) = I at *
    generalize opRows c.ops = R at *
    generalize hr : ecL0 _ H = r
    simp -implicitDefEqProofs +contextual (disch := omega) [emit_Code.l0, hk', hrow, hOl, h0, aloop_unroll, emit_Code.l1, hT, hnk, hgk, hIl, hS, hga, hA, -getElem?_pos] at hr
    generalize hq : emit_halves.spec _ _ = q at hr
    obtain ⟨v', H', rfl, p1, p2⟩ := halves_of hq (by omega) ws (by omega) (by (repeat' (first | assumption | with_reducible apply AHeap.WF.push | with_reducible apply AHeap.WF.set | with_reducible apply killAll_wf | exact AHeap.WF.empty)) <;> (simp <;> omega)) (HV_keep hv fun b blk hb => by have := hw _ _ hb; simp (disch := omega) [hb])
    have hlv := HV_len p1
    rw [san_wf p2.1 p2.2.1] at hr
    have hlw : (ws ++ hlfs L).length = ws.length + L.length := by simp
    rw [hlw] at hlv
    simp -implicitDefEqProofs +contextual (disch := omega) [hlv] at hr
    subst hr
    obtain ⟨g1, g2⟩ := p2.2.2 0 _ (by simp (disch := omega) [h0]; rfl) h0'
    refine ⟨v', H', _, by rw [hk1]; rfl, p1, p2.1, g1, g2⟩
  · rw [hc] at hT hta htb
    obtain ⟨A, rfl, hA⟩ := hta (by omega)
    have hga := iz_get m A hA
    obtain ⟨B, rfl, hB⟩ := htb (by omega)
    have hgb := iz_get m B hB
    have hsr : srcI m ⟨ok, A, B, on⟩ = [m.getD A 0, m.getD B 0] := by simp [srcI, hc]
    rw [hsr] at hS
    simp only [List.map_nil, List.map_cons, ints] at hS
    generalize m.getD N 0 = z at *
    generalize m.getD A 0 = x at *
    generalize m.getD B 0 = x2 at *
    have hB' := hB
    generalize ints (iz m) = I at *
    generalize opRows c.ops = R at *
    generalize hr : ecL0 _ H = r
    simp -implicitDefEqProofs +contextual (disch := omega) [emit_Code.l0, hk', hrow, hOl, h0, aloop_unroll, emit_Code.l1, hT, hnk, hgk, hIl, hS, hga, hgb, hA, hB, -getElem?_pos] at hr
    generalize hq : emit_halves.spec _ _ = q at hr
    obtain ⟨v', H', rfl, p1, p2⟩ := halves_of hq (by omega) ws (by omega) (by (repeat' (first | assumption | with_reducible apply AHeap.WF.push | with_reducible apply AHeap.WF.set | with_reducible apply killAll_wf | exact AHeap.WF.empty)) <;> (simp <;> omega)) (HV_keep hv fun b blk hb => by have := hw _ _ hb; simp (disch := omega) [hb])
    have hlv := HV_len p1
    rw [san_wf p2.1 p2.2.1] at hr
    have hlw : (ws ++ hlfs L).length = ws.length + L.length := by simp
    rw [hlw] at hlv
    simp -implicitDefEqProofs +contextual (disch := omega) [hlv] at hr
    subst hr
    obtain ⟨g1, g2⟩ := p2.2.2 0 _ (by simp (disch := omega) [h0]; rfl) h0'
    refine ⟨v', H', _, by rw [hk1]; rfl, p1, p2.1, g1, g2⟩
end Go.Abs
end
section
set_option linter.unusedSimpArgs false
set_option linter.unusedVariables false
namespace Go.Abs
open Th
def opZ : OpM := ⟨0, 0, 0, 0#32⟩
def blkI (c : CodeM) (m : List Nat) (k : Nat) : List InsM := stepI (c.ops.getD k opZ) (m.getD (c.inN.toNat + k) 0) (srcI m (c.ops.getD k opZ))
def upI (c : CodeM) (m : List Nat) (k : Nat) : List InsM := beginI ++ ((List.range k).map (blkI c m)).flatten
theorem upI_succ (c : CodeM) (m : List Nat) (k : Nat) : upI c m (k + 1) = upI c m k ++ blkI c m k := by
  unfold upI; rw [List.range_succ, List.map_append, List.flatten_append, List.append_assoc]; simp
theorem blkI_le (c : CodeM) (m : List Nat) (k : Nat) : (blkI c m k).length ≤ 22 := stepI_le _ _ _ (srcI_len _ _)
theorem upI_le (c : CodeM) (m : List Nat) : ∀ k, (upI c m k).length ≤ 4 + 22 * k
  | 0 => by simp [upI, beginI]
  | k + 1 => by rw [upI_succ, List.length_append]; have := upI_le c m k; have := blkI_le c m k; omega
def bkI : InsM := ⟨20, 0, 0, 0, 0⟩
def codeI (c : CodeM) (m : List Nat) : List InsM := upI c m c.ops.length ++ [bkI]
def codeFits (c : CodeM) (slots : List Int) : Bool := c.can && decide ((slots.length : Int) = c.inN + c.ops.length) && !(slots.any fun n => !slotOk n)
theorem ec_loop (c : CodeM) (n : Nat) (hn : c.inN = n) (m : List Nat) (hm : ∀ x ∈ m, x ≤ 16000) (hml : m.length = n + c.ops.length) (hop : c.ops.length ≤ 1000) (hin : n ≤ 4000) (hok : opsOk c.ops c.inN = true)
    (v : AV) (H : AHeap) (hw : H.WF) (h0 : H.get 0 = some (codeBlk c)) (h0' : NotAt 0 v) (hv : HV (hlfs beginI) v H) {r} (hr : aloop ecL0 (ecFr c m v 0 []) H = r) :
    ∃ e fr' X', r = some (e, fr', X') ∧ (e = .exit 0 ∧ HV (hlfs (upI c m c.ops.length)) (fr' 6) X' ∧ X'.WF) := by
  refine run_of hr (aloop_each c.ops.length (fun k fr X => ∃ y v', fr = ecFr c m v' k y ∧ HV (hlfs (upI c m k)) v' X ∧ X.WF ∧ X.get 0 = some (codeBlk c) ∧ NotAt 0 v') _ (fun k hk fr X hR => ?_) (fun fr X hR => ?_) ⟨[], v, rfl, by simpa [upI] using hv, hw, h0, h0'⟩)
  · obtain ⟨y, v', rfl, q1, q2, q3, q4⟩ := hR
    have hu := upI_le c m k
    have hok' := (opsOk_all _ _).1 hok k hk
    rw [hn, show (n : Int) + k = ((n + k : Nat) : Int) by omega] at hok'
    obtain ⟨v2, H2, y2, s1, s2, s3, s4, s5⟩ := ec_round c n hn m hm hml hop hin k hk hok' (hlfs (upI c m k)) (by simp; omega) v' X y q2 q3 q4 q1
    refine ⟨_, _, _, s1, .inl ⟨rfl, y2, v2, rfl, ?_, s3, s4, s5⟩⟩
    have e1 : c.ops.getD k opZ = c.ops[k] := by simp [List.getD_eq_getElem?_getD, hk]
    rw [upI_succ, hlfs_append, blkI, e1, hn, Int.toNat_natCast]
    exact s2
  · obtain ⟨y, v', rfl, q1, q2, q3, q4⟩ := hR
    refine ⟨_, _, _, by simp -implicitDefEqProofs +contextual (disch := omega) [emit_Code.l0, ecFr]; first | rfl | exact ⟨rfl, rfl⟩ | exact ⟨rfl, rfl, rfl⟩, by simp, rfl, by simpa [ecFr] using q1, q2⟩
theorem putM_bk : putM bkI = (48640#16, 0) := by decide +kernel
theorem halves_bk {ws : List (BitVec 16)} (hws : ws.length ≤ 900000) {v : AV} {H : AHeap} (hw : H.WF) (hv : HV ws v H) :
    ∃ v' H', emit_halves.spec [v, .sl H.next 5 0 1] (H.push { e := T.ty_api_Ins, sz := 5, flat := true, rows := [[.int .i64 20, .int .i64 0, .int .i64 0, .int .i64 0, .int .i64 0]] }) = some (v', H') ∧ HV (ws ++ [48640#16]) v' H' := by
  have hP := Put_eq bkI
  rw [putM_bk] at hP
  unfold InsAV bkI at hP
  dsimp only at hP
  rcases hv with ⟨rfl, rfl⟩ | ⟨ob, rfl, gb⟩
  · refine ⟨_, _, by simp -implicitDefEqProofs +contextual (disch := omega) [emit_halves.spec, emit_halves, aloop_unroll, emit_halves.l0, hP]; exact ⟨rfl, rfl⟩, .inr ⟨_, rfl, by simp [w16s]⟩⟩
  · have hob := hw _ _ gb
    refine ⟨_, _, by simp -implicitDefEqProofs +contextual (disch := omega) [emit_halves.spec, emit_halves, aloop_unroll, emit_halves.l0, hP, gb]; exact ⟨rfl, rfl⟩, .inr ⟨_, by simp; rfl, by simp [w16s_snoc]⟩⟩
set_option maxHeartbeats 4000000 in
theorem ECode_eq (c : CodeM) (hop : c.ops.length ≤ 1000) (hout : c.outs.length ≤ 1000000000) (slots : List Int) (hl : slots.length ≤ 1000000000) :
    emit_Code.spec [.agg c.cells, .rsl 1 (ints slots)] = some (if codeFits c slots = true then .tup [.rsl 1 (w16s (hlfs (codeI c (slots.map Int.toNat)))), .int .i64 0] else .tup [.rsl 1 [], .int .i64 1]) := by
  have hC := Can_eq' c hout (by omega)
  have hcb := codeBlk_eq c
  unfold codeFits
  unfold CodeM.cells at hC ⊢
  cases hcan : c.can with
  | false =>
    rw [hcan] at hC
    simp -implicitDefEqProofs +contextual (disch := omega) [emit_Code.spec, emit_Code, hC]
  | true =>
    rw [hcan] at hC
    have hcan' := hcan
    unfold CodeM.can at hcan'
    simp only [Bool.and_eq_true, decide_eq_true_eq] at hcan'
    obtain ⟨⟨⟨⟨q1, q2⟩, q3⟩, q4⟩, q5⟩ := hcan'
    obtain ⟨n, hn⟩ : ∃ n : Nat, c.inN = n := ⟨c.inN.toNat, by omega⟩
    rw [hn] at hC hcb ⊢
    have hn4 : n ≤ 4000 := by omega
    by_cases hlen : (slots.length : Int) = n + c.ops.length
    · rw [decide_eq_true hlen]
      simp -implicitDefEqProofs +contextual (disch := omega) [emit_Code.spec, emit_Code, hC, hlen]
      generalize hr : slices_ContainsFunc_int.spec _ _ = r
      obtain rfl := scontains_of hC_code code1_eq hr (by (repeat' (first | assumption | with_reducible apply AHeap.WF.push | with_reducible apply AHeap.WF.set | with_reducible apply killAll_wf | exact AHeap.WF.empty)) <;> (simp <;> omega)) hl
      cases hany : slots.any fun n => !slotOk n with
      | true =>
        simp -implicitDefEqProofs +contextual (disch := omega) []
        simpa using hany
      | false =>
        obtain ⟨m, rfl, hm⟩ := slots_nat slots hany
        have hmm : (m.map fun x : Nat => (x : Int)).map Int.toNat = m := by rw [List.map_map]; exact (List.map_congr_left fun x _ => by simp).trans (List.map_id m)
        rw [hmm, if_pos (fun a ha => by obtain ⟨x, hx, rfl⟩ := List.mem_map.1 ha; have := hm x hx; simp [slotOk]; omega)]
        rw [List.length_map] at hlen
        have hB := begin_eq
        simp -implicitDefEqProofs +contextual (disch := omega) [hB]
        generalize hq : emit_halves.spec _ _ = q
        obtain ⟨v1, X1, rfl, p1, p2⟩ := halves_of hq (by simp [beginI]) [] (by simp) (by (repeat' (first | assumption | with_reducible apply AHeap.WF.push | with_reducible apply AHeap.WF.set | with_reducible apply killAll_wf | exact AHeap.WF.empty)) <;> (simp <;> omega)) (.inl ⟨rfl, rfl⟩)
        obtain ⟨g1, g2⟩ := p2.2.2 0 _ (by simp; rfl) (fun _ h => by cases h)
        simp -implicitDefEqProofs +contextual (disch := omega) [g1]
        generalize hr : aloop _ _ _ = r
        obtain ⟨e, fr', X', rfl, rfl, s1, s2⟩ := ec_loop c n hn m hm (by omega) hop (by omega) q4 v1 X1 p2.1 (by rw [hcb]; exact g1) g2 p1 hr
        have hu := upI_le c m c.ops.length
        simp -implicitDefEqProofs +contextual (disch := omega) []
        obtain ⟨v2, X2, t1, t2⟩ := halves_bk (by simp; omega) s2 s1
        have hco : hlfs (upI c m c.ops.length) ++ [48640#16] = hlfs (codeI c m) := by unfold codeI; rw [hlfs_append]; simp [hlfs, putM_bk]
        rw [hco] at t2
        rw [t1]
        rcases t2 with ⟨t3, rfl⟩ | ⟨ob, rfl, t4⟩
        · have : (hlfs (codeI c m)).length = 0 := by rw [t3]; rfl
          simp [codeI] at this
        · generalize hlfs (codeI c m) = L at *
          simp -implicitDefEqProofs +contextual (disch := omega) [t4]
    · rw [decide_eq_false hlen]
      simp -implicitDefEqProofs +contextual (disch := omega) [emit_Code.spec, emit_Code, hC, hlen]
end Go.Abs
end
