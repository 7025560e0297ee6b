/-
  The gadgets, by the document: what each part does; printed by genj16.py.
-/
import Derived.Test.YthignlpdeaglaaaJ16
set_option linter.unusedSimpArgs false
set_option linter.unusedVariables false
namespace Go.Abs
theorem gd_r10 (d : Nat) (hd : d ≤ 6) (and : Bool) (i : Nat) (hi : i ≤ 6) {n : Nat} (hn : n ≤ 100) {X : AHeap} {vo vu : AV} {ops : List OpM} {outs : List Int} (h : CdI n X vo vu ops outs) (hl : ops.length ≤ 1000)  (x : List (Nat × AV)) :
    ∃ X' vo', ref19_Gadget.r10 (gdFr d and ([(7, .int .i64 i)] ++ x)) X = some (.normal, gdFr d and [(7, .int .i64 i)], X') ∧ CdI n X' vo' vu (ops ++ [opM 1 i (d + 1 + i)]) outs := by
  have hw := h.wf
  have g0 := h.g0
  obtain ⟨f, g1⟩ := h.g1
  have b1 := hw _ _ g1
  have b0 := hw _ _ g0
  rcases h.ro with ⟨q1, rfl⟩ | ⟨ob, q1, rfl, go⟩
  · have hz : ops = [] := by simpa [opRows] using q1
    subst hz
    refine ⟨?_, ?_, ?_, ?_⟩
    rotate_left; rotate_left
    · simp -implicitDefEqProofs +contextual (disch := try first | omega | assumption | (simp; done)) [ref19_Gadget.r10, gdFr, g1]
      rfl
    · refine h.newops (nb := X.next + 1) (ops' := [opM 1 i (d + 1 + i)]) (f' := false) (by omega) ?_ ?_ ?_ ?_
      · (repeat' (first | assumption | with_reducible apply AHeap.WF.push | with_reducible apply AHeap.WF.set | with_reducible apply killAll_wf | exact AHeap.WF.empty)) <;> (simp <;> omega)
      · simp (disch := omega)
      · simp (disch := omega) [opRows, OpM.cells, opM]
      · intro c c1 c2 c3; simp (disch := omega) [c2]
  · simp only [List.mem_cons, List.not_mem_nil, or_false, not_or] at q1
    have b2 := hw _ _ go
    refine ⟨?_, ?_, ?_, ?_⟩
    rotate_left; rotate_left
    · simp -implicitDefEqProofs +contextual (disch := try first | omega | assumption | (simp; done)) [ref19_Gadget.r10, gdFr, g1, go]
      rfl
    · refine h.newops (nb := X.next + 1) (ops' := ops ++ [opM 1 i (d + 1 + i)]) (f' := false) (by omega) ?_ ?_ ?_ ?_
      · (repeat' (first | assumption | with_reducible apply AHeap.WF.push | with_reducible apply AHeap.WF.set | with_reducible apply killAll_wf | exact AHeap.WF.empty)) <;> (simp <;> omega)
      · simp (disch := omega)
      · simp (disch := omega) [← opRows_append, opRows, OpM.cells, opM]
      · intro c c1 c2 c3; have c4 := c3 ob (by simp); simp (disch := omega) [c2, c4]
theorem gd_r20 (d : Nat) (hd : d ≤ 6) (and : Bool) (i j N : Nat) {n : Nat} (hn : n ≤ 100) {X : AHeap} {vo vu : AV} {ops : List OpM} {outs : List Int} (h : CdI n X vo vu ops outs) (hl : ops.length ≤ 1000)  (x : List (Nat × AV)) :
    ∃ X' vo', ref19_Gadget.r20 (gdFr d and ([(8, .int .i64 i), (9, .int .i64 j), (10, .int .i64 N)] ++ x)) X = some (.normal, gdFr d and [(8, .int .i64 i), (9, .int .i64 j), (10, .int .i64 N)], X') ∧ CdI n X' vo' vu (ops ++ [opM 0 0 0]) outs := by
  have hw := h.wf
  have g0 := h.g0
  obtain ⟨f, g1⟩ := h.g1
  have b1 := hw _ _ g1
  have b0 := hw _ _ g0
  rcases h.ro with ⟨q1, rfl⟩ | ⟨ob, q1, rfl, go⟩
  · have hz : ops = [] := by simpa [opRows] using q1
    subst hz
    refine ⟨?_, ?_, ?_, ?_⟩
    rotate_left; rotate_left
    · simp -implicitDefEqProofs +contextual (disch := try first | omega | assumption | (simp; done)) [ref19_Gadget.r20, gdFr, g1]
      rfl
    · refine h.newops (nb := X.next + 1) (ops' := [opM 0 0 0]) (f' := false) (by omega) ?_ ?_ ?_ ?_
      · (repeat' (first | assumption | with_reducible apply AHeap.WF.push | with_reducible apply AHeap.WF.set | with_reducible apply killAll_wf | exact AHeap.WF.empty)) <;> (simp <;> omega)
      · simp (disch := omega)
      · simp (disch := omega) [opRows, OpM.cells, opM]
      · intro c c1 c2 c3; simp (disch := omega) [c2]
  · simp only [List.mem_cons, List.not_mem_nil, or_false, not_or] at q1
    have b2 := hw _ _ go
    refine ⟨?_, ?_, ?_, ?_⟩
    rotate_left; rotate_left
    · simp -implicitDefEqProofs +contextual (disch := try first | omega | assumption | (simp; done)) [ref19_Gadget.r20, gdFr, g1, go]
      rfl
    · refine h.newops (nb := X.next + 1) (ops' := ops ++ [opM 0 0 0]) (f' := false) (by omega) ?_ ?_ ?_ ?_
      · (repeat' (first | assumption | with_reducible apply AHeap.WF.push | with_reducible apply AHeap.WF.set | with_reducible apply killAll_wf | exact AHeap.WF.empty)) <;> (simp <;> omega)
      · simp (disch := omega)
      · simp (disch := omega) [← opRows_append, opRows, OpM.cells, opM]
      · intro c c1 c2 c3; have c4 := c3 ob (by simp); simp (disch := omega) [c2, c4]
theorem gd_r23 (d : Nat) (hd : d ≤ 6) (and : Bool) (i j N : Nat) (hi : i ≤ 6) (hj : j ≤ 6) (hN : N ≤ 2000) {n : Nat} (hn : n ≤ 100) {X : AHeap} {vo vu : AV} {ops : List OpM} {outs : List Int} (h : CdI n X vo vu ops outs) (hl : ops.length ≤ 1000)  (x : List (Nat × AV)) :
    ∃ X' vo', ref19_Gadget.r23 (gdFr d and ([(8, .int .i64 i), (9, .int .i64 j), (10, .int .i64 N)] ++ x)) X = some (.normal, gdFr d and [(8, .int .i64 i), (9, .int .i64 j), (10, .int .i64 N)], X') ∧ CdI n X' vo' vu (ops ++ [opM 1 i (d + 1 + j), opM 2 N (N + 1), opM 1 j (d + 1 + i), opM 2 (N + 2) (N + 3)]) outs := by
  have hw := h.wf
  have g0 := h.g0
  obtain ⟨f, g1⟩ := h.g1
  have b1 := hw _ _ g1
  have b0 := hw _ _ g0
  rcases h.ro with ⟨q1, rfl⟩ | ⟨ob, q1, rfl, go⟩
  · have hz : ops = [] := by simpa [opRows] using q1
    subst hz
    refine ⟨?_, ?_, ?_, ?_⟩
    rotate_left; rotate_left
    · simp -implicitDefEqProofs +contextual (disch := try first | omega | assumption | (simp; done)) [ref19_Gadget.r23, gdFr, g1]
      rfl
    · refine h.newops (nb := X.next + 1) (ops' := [opM 1 i (d + 1 + j), opM 2 N (N + 1), opM 1 j (d + 1 + i), opM 2 (N + 2) (N + 3)]) (f' := false) (by omega) ?_ ?_ ?_ ?_
      · (repeat' (first | assumption | with_reducible apply AHeap.WF.push | with_reducible apply AHeap.WF.set | with_reducible apply killAll_wf | exact AHeap.WF.empty)) <;> (simp <;> omega)
      · simp (disch := omega)
      · simp (disch := omega) [opRows, OpM.cells, opM]
      · intro c c1 c2 c3; simp (disch := omega) [c2]
  · simp only [List.mem_cons, List.not_mem_nil, or_false, not_or] at q1
    have b2 := hw _ _ go
    refine ⟨?_, ?_, ?_, ?_⟩
    rotate_left; rotate_left
    · simp -implicitDefEqProofs +contextual (disch := try first | omega | assumption | (simp; done)) [ref19_Gadget.r23, gdFr, g1, go]
      rfl
    · refine h.newops (nb := X.next + 1) (ops' := ops ++ [opM 1 i (d + 1 + j), opM 2 N (N + 1), opM 1 j (d + 1 + i), opM 2 (N + 2) (N + 3)]) (f' := false) (by omega) ?_ ?_ ?_ ?_
      · (repeat' (first | assumption | with_reducible apply AHeap.WF.push | with_reducible apply AHeap.WF.set | with_reducible apply killAll_wf | exact AHeap.WF.empty)) <;> (simp <;> omega)
      · simp (disch := omega)
      · simp (disch := omega) [← opRows_append, opRows, OpM.cells, opM]
      · intro c c1 c2 c3; have c4 := c3 ob (by simp); simp (disch := omega) [c2, c4]
theorem gd_r25 (d : Nat) (hd : d ≤ 6) (and : Bool) (i j N W : Nat) {n : Nat} (hn : n ≤ 100) {X : AHeap} {vo vu : AV} {ops : List OpM} {outs : List Int} (h : CdI n X vo vu ops outs) (hl : ops.length ≤ 1000) (hi : i < outs.length) (hj : j < outs.length) (hu : ∃ ub, vu = .sl ub 1 0 outs.length) (x : List (Nat × AV)) :
    ∃ X' vo', ref19_Gadget.r25 (gdFr d and ([(8, .int .i64 i), (9, .int .i64 j), (10, .int .i64 N), (11, .int .i64 W)] ++ x)) X = some (.normal, gdFr d and [(8, .int .i64 i), (9, .int .i64 j), (11, .int .i64 W)], X') ∧ CdI n X' vo' vu (ops ++ [⟨2, ati outs i, N, 0#32⟩, ⟨2, ati outs j, W, 0#32⟩]) outs := by
  have hw := h.wf
  have g0 := h.g0
  obtain ⟨f, g1⟩ := h.g1
  have b1 := hw _ _ g1
  have b0 := hw _ _ g0
  obtain ⟨ub, rfl⟩ := hu
  obtain ⟨gu, hub⟩ := h.vu_at rfl
  simp only [List.mem_cons, List.not_mem_nil, or_false, not_or] at hub
  have b3 := hw _ _ gu
  rcases h.ro with ⟨q1, rfl⟩ | ⟨ob, q1, rfl, go⟩
  · have hz : ops = [] := by simpa [opRows] using q1
    subst hz
    refine ⟨?_, ?_, ?_, ?_⟩
    rotate_left; rotate_left
    · simp -implicitDefEqProofs +contextual (disch := try first | omega | assumption | (simp; done)) [ref19_Gadget.r25, gdFr, g1, hi, hj, gu]
      rfl
    · refine h.newops (nb := X.next + 1) (ops' := [⟨2, ati outs i, N, 0#32⟩, ⟨2, ati outs j, W, 0#32⟩]) (f' := false) (by omega) ?_ ?_ ?_ ?_
      · (repeat' (first | assumption | with_reducible apply AHeap.WF.push | with_reducible apply AHeap.WF.set | with_reducible apply killAll_wf | exact AHeap.WF.empty)) <;> (simp <;> omega)
      · simp (disch := omega)
      · simp (disch := omega) [opRows, OpM.cells, opM]
      · intro c c1 c2 c3; simp (disch := omega) [c2]
  · simp only [List.mem_cons, List.not_mem_nil, or_false, not_or] at q1
    have b2 := hw _ _ go
    refine ⟨?_, ?_, ?_, ?_⟩
    rotate_left; rotate_left
    · simp -implicitDefEqProofs +contextual (disch := try first | omega | assumption | (simp; done)) [ref19_Gadget.r25, gdFr, g1, go, hi, hj, gu]
      rfl
    · refine h.newops (nb := X.next + 1) (ops' := ops ++ [⟨2, ati outs i, N, 0#32⟩, ⟨2, ati outs j, W, 0#32⟩]) (f' := false) (by omega) ?_ ?_ ?_ ?_
      · (repeat' (first | assumption | with_reducible apply AHeap.WF.push | with_reducible apply AHeap.WF.set | with_reducible apply killAll_wf | exact AHeap.WF.empty)) <;> (simp <;> omega)
      · simp (disch := omega)
      · simp (disch := omega) [← opRows_append, opRows, OpM.cells, opM]
      · intro c c1 c2 c3; have c4 := c3 ob (by simp); simp (disch := omega) [c2, c4]
theorem gd_r11 (d : Nat) (hd : d ≤ 6) (and : Bool) (i : Nat) (hi : i ≤ 6) {n : Nat} (hn : n ≤ 100) {X : AHeap} {vo vu : AV} {ops : List OpM} {outs : List Int} (h : CdI n X vo vu ops outs) (hl : outs.length ≤ 1000) (x : List (Nat × AV)) :
    ∃ X' vu', ref19_Gadget.r11 (gdFr d and ([(7, .int .i64 i)] ++ x)) X = some (.normal, gdFr d and [(7, .int .i64 i)], X') ∧ CdI n X' vo vu' ops (outs ++ [((n + i : Nat) : Int)]) := by
  have hw := h.wf
  have g0 := h.g0
  obtain ⟨f, g1⟩ := h.g1
  have b1 := hw _ _ g1
  have b0 := hw _ _ g0
  rcases h.ru with ⟨q1, rfl⟩ | ⟨ob, q1, rfl, go⟩
  · have hz : outs = [] := by simpa [ints] using q1
    subst hz
    refine ⟨?_, ?_, ?_, ?_⟩
    rotate_left; rotate_left
    · simp -implicitDefEqProofs +contextual (disch := try first | omega | assumption | (simp; done)) [ref19_Gadget.r11, gdFr, g1]
      rfl
    · refine h.newouts (nb := X.next + 1) (outs' := [((n + i : Nat) : Int)]) (f' := false) (by omega) ?_ ?_ ?_ ?_
      · (repeat' (first | assumption | with_reducible apply AHeap.WF.push | with_reducible apply AHeap.WF.set | with_reducible apply killAll_wf | exact AHeap.WF.empty)) <;> (simp <;> omega)
      · simp (disch := omega)
      · simp (disch := omega) [ints]
      · intro c c1 c2 c3; simp (disch := omega) [c2]
  · simp only [List.mem_cons, List.not_mem_nil, or_false, not_or] at q1
    have b2 := hw _ _ go
    refine ⟨?_, ?_, ?_, ?_⟩
    rotate_left; rotate_left
    · simp -implicitDefEqProofs +contextual (disch := try first | omega | assumption | (simp; done)) [ref19_Gadget.r11, gdFr, g1, go]
      rfl
    · refine h.newouts (nb := X.next + 1) (outs' := outs ++ [((n + i : Nat) : Int)]) (f' := false) (by omega) ?_ ?_ ?_ ?_
      · (repeat' (first | assumption | with_reducible apply AHeap.WF.push | with_reducible apply AHeap.WF.set | with_reducible apply killAll_wf | exact AHeap.WF.empty)) <;> (simp <;> omega)
      · simp (disch := omega)
      · simp (disch := omega) [← ints_append, ints]
      · intro c c1 c2 c3; have c4 := c3 ob (by simp); simp (disch := omega) [c2, c4]
theorem gd_r12 (d : Nat) (hd : d ≤ 6) (and : Bool) (i : Nat) (hi : i ≤ 6) {n : Nat} (hn : n ≤ 100) {X : AHeap} {vo vu : AV} {ops : List OpM} {outs : List Int} (h : CdI n X vo vu ops outs) (hl : outs.length ≤ 1000) (x : List (Nat × AV)) :
    ∃ X' vu', ref19_Gadget.r12 (gdFr d and ([(7, .int .i64 i)] ++ x)) X = some (.normal, gdFr d and [(7, .int .i64 i)], X') ∧ CdI n X' vo vu' ops (outs ++ [((i : Nat) : Int)]) := by
  have hw := h.wf
  have g0 := h.g0
  obtain ⟨f, g1⟩ := h.g1
  have b1 := hw _ _ g1
  have b0 := hw _ _ g0
  rcases h.ru with ⟨q1, rfl⟩ | ⟨ob, q1, rfl, go⟩
  · have hz : outs = [] := by simpa [ints] using q1
    subst hz
    refine ⟨?_, ?_, ?_, ?_⟩
    rotate_left; rotate_left
    · simp -implicitDefEqProofs +contextual (disch := try first | omega | assumption | (simp; done)) [ref19_Gadget.r12, gdFr, g1]
      rfl
    · refine h.newouts (nb := X.next + 1) (outs' := [((i : Nat) : Int)]) (f' := false) (by omega) ?_ ?_ ?_ ?_
      · (repeat' (first | assumption | with_reducible apply AHeap.WF.push | with_reducible apply AHeap.WF.set | with_reducible apply killAll_wf | exact AHeap.WF.empty)) <;> (simp <;> omega)
      · simp (disch := omega)
      · simp (disch := omega) [ints]
      · intro c c1 c2 c3; simp (disch := omega) [c2]
  · simp only [List.mem_cons, List.not_mem_nil, or_false, not_or] at q1
    have b2 := hw _ _ go
    refine ⟨?_, ?_, ?_, ?_⟩
    rotate_left; rotate_left
    · simp -implicitDefEqProofs +contextual (disch := try first | omega | assumption | (simp; done)) [ref19_Gadget.r12, gdFr, g1, go]
      rfl
    · refine h.newouts (nb := X.next + 1) (outs' := outs ++ [((i : Nat) : Int)]) (f' := false) (by omega) ?_ ?_ ?_ ?_
      · (repeat' (first | assumption | with_reducible apply AHeap.WF.push | with_reducible apply AHeap.WF.set | with_reducible apply killAll_wf | exact AHeap.WF.empty)) <;> (simp <;> omega)
      · simp (disch := omega)
      · simp (disch := omega) [← ints_append, ints]
      · intro c c1 c2 c3; have c4 := c3 ob (by simp); simp (disch := omega) [c2, c4]
theorem gd_r26 (d : Nat) (and : Bool) (i j W : Nat) (hW : W ≤ 3000) {n : Nat} {X : AHeap} {vo : AV} {ub : Nat} {ops : List OpM} {outs : List Int} (h : CdI n X vo (.sl ub 1 0 outs.length) ops outs) (hi : i < outs.length) (hj : j < outs.length) (hij : i ≠ j) (x : List (Nat × AV)) :
    ∃ X', ref19_Gadget.r26 (gdFr d and ([(8, .int .i64 i), (9, .int .i64 j), (11, .int .i64 W)] ++ x)) X = some (.normal, gdFr d and [(8, .int .i64 i), (9, .int .i64 j)], X') ∧ CdI n X' vo (.sl ub 1 0 outs.length) ops ((outs.set i ((W + 1 : Nat) : Int)).set j ((W + 2 : Nat) : Int)) := by
  have hw := h.wf
  have g0 := h.g0
  obtain ⟨f, g1⟩ := h.g1
  have b1 := hw _ _ g1
  obtain ⟨gu, hub⟩ := h.vu_at rfl
  simp only [List.mem_cons, List.not_mem_nil, or_false, not_or] at hub
  have I1 := h.turn rfl i ((W + 1 : Nat) : Int)
  have I2 := I1.turn (ob := ub) (by simp) j ((W + 2 : Nat) : Int)
  refine ⟨_, ?_, I2⟩
  simp -implicitDefEqProofs +contextual (disch := try first | omega | assumption | (simp; done)) [ref19_Gadget.r26, gdFr, g1, gu, hub, hi, hj]
end Go.Abs
