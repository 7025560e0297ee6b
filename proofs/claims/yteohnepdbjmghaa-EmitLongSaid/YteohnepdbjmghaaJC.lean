import Derived.Test.YteohnepdbjmghaaJA
import Derived.Test.YteohnepdbjmghaaQI
import Derived.Test.YteohnepdbjmghaaIrF
import Derived.Test.YteohnepdbjmghaaSA
import Derived.Test.YteohnepdbjmghaaWA
section
set_option linter.unusedSimpArgs false
set_option linter.unusedVariables false
namespace Go.Abs
theorem opsOk_all : ∀ (l : List OpM) (w : Int), opsOk l w = true ↔ ∀ k (h : k < l.length), l[k].ok (w + k) = true
  | [], w => by simp [opsOk]
  | o :: l, w => by
    rw [opsOk_cons, Bool.and_eq_true, opsOk_all l (w + 1)]
    constructor
    · rintro ⟨h1, h2⟩ k hk
      cases k with
      | zero => rw [show w + ((0 : Nat) : Int) = w from by omega]; exact h1
      | succ k =>
        have := h2 k (by simpa using hk)
        simp only [List.getElem_cons_succ]
        rw [show w + ((k + 1 : Nat) : Int) = w + 1 + (k : Int) from by omega]; exact this
    · intro h
      refine ⟨by have := h 0 (by simp); rwa [show w + ((0 : Nat) : Int) = w from by omega] at this, fun k hk => ?_⟩
      have := h (k + 1) (by simpa using hk)
      simp only [List.getElem_cons_succ] at this
      rw [show w + 1 + (k : Int) = w + ((k + 1 : Nat) : Int) from by omega]; exact this
end Go.Abs
end
section
set_option linter.unusedSimpArgs false
set_option linter.unusedVariables false
namespace Go.Abs
theorem codeBlk_eq (c : CodeM) : codeBlk c = ⟨T.ty_api_Code, 3, true, [[.int .i64 c.inN, .rsl 4 (opRows c.ops), .rsl 1 (ints c.outs)]]⟩ := rfl
theorem rOwn_eq (c : CodeM) (hl : c.ops.length ≤ 1000000000) (hb : c.outs.length ≤ 1000000000) : ref19_Own.spec [.agg c.cells] = some (.agg c.cells) := by
  unfold CodeM.cells
  simp -implicitDefEqProofs +contextual (disch := omega) [ref19_Own.spec, ref19_Own]
  have e1 : (opRows c.ops).take c.ops.length = opRows c.ops := by rw [← opRows_length c.ops, List.take_length]
  by_cases h1 : opRows c.ops = []
  · by_cases h2 : ints c.outs = []
    · simp -implicitDefEqProofs +contextual (disch := omega) [h1, h2, e1]
    · simp -implicitDefEqProofs +contextual (disch := omega) [h1, h2, e1]
  · by_cases h2 : ints c.outs = []
    · simp -implicitDefEqProofs +contextual (disch := omega) [h1, h2, e1]
    · simp -implicitDefEqProofs +contextual (disch := omega) [h1, h2, e1]
theorem rows_ops (rows : List (List AV)) (h : ∀ row, row ∈ rows → ShsOk [.int .i64, .int .i64, .int .i64, .int .u32] row) : ∃ l : List OpM, rows = opRows l := by
  obtain ⟨l, h1, _⟩ := rows_of (enc := OpM.cells) (ok := fun _ => True) (fun row h => by
    obtain ⟨a0, _, rfl, q0, h⟩ := shs_cons h
    obtain ⟨a1, _, rfl, q1, h⟩ := shs_cons h
    obtain ⟨a2, _, rfl, q2, h⟩ := shs_cons h
    obtain ⟨a3, rfl, q3⟩ := shs_one h
    obtain ⟨x0, rfl, _⟩ := sh_i64 q0
    obtain ⟨x1, rfl, _⟩ := sh_i64 q1
    obtain ⟨x2, rfl, _⟩ := sh_i64 q2
    obtain ⟨x3, rfl⟩ := sh_u32 q3
    exact ⟨⟨x0, x1, x2, x3⟩, rfl, trivial⟩) rows h
  exact ⟨l, h1⟩
theorem sh_code {cs : List AV} {ss : List Sh} (h : ShsOk (.int .i64 :: .sl 4 32 [.int .i64, .int .i64, .int .i64, .int .u32] :: .sl 1 8 [.int .i64] :: ss) cs) :
    ∃ (c : CodeM) (r : List AV), cs = c.cells ++ r ∧ ShsOk ss r ∧ I64 c.inN ∧ c.ops.length ≤ 4398046511101 ∧ c.outs.length ≤ 17592186043904 := by
  obtain ⟨a0, _, rfl, q0, h⟩ := shs_cons h
  obtain ⟨a1, _, rfl, q1, h⟩ := shs_cons h
  obtain ⟨a2, r, rfl, q2, h9⟩ := shs_cons h
  obtain ⟨x0, rfl, hx⟩ := sh_i64 q0
  simp only [ShOk] at q1
  obtain ⟨rows, rfl, hb, hr⟩ := q1
  obtain ⟨l, rfl⟩ := rows_ops rows hr
  obtain ⟨m, rfl, hm, _⟩ := sh_slint q2
  refine ⟨⟨x0, l, m⟩, r, rfl, h9, hx, ?_, by dsimp only; omega⟩
  simp [reachBytes] at hb
  dsimp only; omega
end Go.Abs
end
section
set_option linter.unusedSimpArgs false
set_option linter.unusedVariables false
end
