/-
  The law EmitSteps.
-/
import Derived.Test.YteohnepdbjmghaaE16
set_option linter.unusedSimpArgs false
set_option linter.unusedVariables false
namespace Go.Abs
open Th
theorem fits_parts (o : OpM) (dst : Int) (src : List Int) (h : fitsI o dst src = true) : (0 ≤ o.k ∧ o.k ≤ 8) ∧ (src.length : Int) = takesM o.k ∧ (0 ≤ dst ∧ dst ≤ 16000) ∧ (src.any fun n => !slotOk n) = false ∧ numOk o := by
  rw [fitsR_eq] at h
  unfold fitsR at h
  simp only [Bool.and_eq_true, decide_eq_true_eq, Bool.not_eq_true'] at h
  obtain ⟨⟨⟨⟨h1, h2⟩, h3⟩, h4⟩, h5⟩ := h
  refine ⟨h1, h2, ?_, h4, fun hk => ?_⟩
  · simp [slotOk] at h3; exact h3
  · simp only [numT, Bool.or_eq_true, Bool.and_eq_true, decide_eq_true_eq] at h5
    rcases h5 with (h5 | h5) | ⟨_, h5⟩
    · omega
    · rw [h5]; decide
    · rw [BitVec.lt_def] at h5; exact h5
theorem rStep_eq' (o : OpM) (dst : Nat) (src : List Nat) (h : fitsI o dst (src.map fun x : Nat => (x : Int)) = true) :
    ref25_Step.spec [.agg o.cells, .int .i64 dst, .rsl 1 (ints (src.map fun x : Nat => (x : Int)))] = some (.rsl 1 (strRows (linesI (stepI o dst src)))) := by
  obtain ⟨hk, hl, hd, hs, hn⟩ := fits_parts o dst _ h
  have hx : ∀ x ∈ src, x ≤ 16000 := fun x hx => by
    have := List.any_eq_false.1 hs x (List.mem_map.2 ⟨x, hx, rfl⟩)
    simp [slotOk] at this
    omega
  have hd' : dst ≤ 16000 := by omega
  rw [List.length_map] at hl
  obtain ⟨k, a, b, n⟩ := o
  dsimp only at hk hl
  unfold OpM.cells
  dsimp only
  have hkc : k = 0 ∨ k = 1 ∨ k = 2 ∨ k = 3 ∨ k = 4 ∨ k = 5 ∨ k = 6 ∨ k = 7 ∨ k = 8 := by omega
  have l0 : src.length = 0 → src = [] := List.eq_nil_of_length_eq_zero
  have l1 : src.length = 1 → ∃ x, src = [x] := List.length_eq_one_iff.1
  have l2 : src.length = 2 → ∃ x y, src = [x, y] := fun h => by
    match src, h with
    | [x, y], _ => exact ⟨x, y, rfl⟩
  rcases hkc with rfl | rfl | rfl | rfl | rfl | rfl | rfl | rfl | rfl
  · obtain rfl := l0 (by have : takesM (0:Int) = 0 := rfl; have : takesM (7:Int) = 0 := rfl; omega)
    exact rStep_0 n a b dst hd'
  · obtain ⟨x, y, rfl⟩ := l2 (by simp [takesM] at hl; omega)
    exact rStep_1 n a b dst hd' x y (hx x (by simp)) (hx y (by simp))
  · obtain ⟨x, y, rfl⟩ := l2 (by simp [takesM] at hl; omega)
    exact rStep_2 n a b dst hd' x y (hx x (by simp)) (hx y (by simp))
  · obtain ⟨x, rfl⟩ := l1 (by simp [takesM] at hl; omega)
    exact rStep_3 n a b dst hd' x (hx x (by simp))
  · obtain ⟨x, rfl⟩ := l1 (by simp [takesM] at hl; omega)
    exact rStep_4 n a b dst hd' x (hx x (by simp))
  · obtain ⟨x, rfl⟩ := l1 (by simp [takesM] at hl; omega)
    by_cases hz : n = 0#32
    · subst hz; exact rStep_5z a b dst hd' x (hx x (by simp))
    · exact rStep_5 n a b dst hd' x (hx x (by simp)) hz
  · obtain ⟨x, rfl⟩ := l1 (by simp [takesM] at hl; omega)
    exact rStep_6 n a b dst hd' x (hx x (by simp))
  · obtain rfl := l0 (by have : takesM (0:Int) = 0 := rfl; have : takesM (7:Int) = 0 := rfl; omega)
    exact rStep_7 n a b dst hd'
  · obtain ⟨x, rfl⟩ := l1 (by simp [takesM] at hl; omega)
    exact rStep_8 n a b dst hd' x (hx x (by simp))
theorem stepI_len (o : OpM) (dst : Nat) (src : List Nat) (hs : src.length ≤ 2) : (stepI o dst src).length ≤ 100 := by
  have h1 := doesI_len o
  have h2 := putI_len dst
  unfold stepI headI
  match src, hs with
  | [], _ => simp [regsI]; omega
  | [x], _ => have := getI_len 0 x; simp [regsI]; omega
  | [x, y], _ => have := getI_len 0 x; have := getI_len 1 y; simp [regsI]; omega
theorem ES_core (o : OpM) (dst : Int) (l : List Int) (hl : l.length ≤ 10) : ∃ R,
    emit_Step.spec [.agg o.cells, .int .i64 dst, .rsl 1 (ints l)] = some (.rsl 5 R) ∧
    ((ref25_Fits.spec [.agg o.cells, .int .i64 dst, .rsl 1 (ints l)] = some (.bool false) ∧ R = []) ∨
     (l.length ≤ 2 ∧ ref25_Fits.spec [.agg o.cells, .int .i64 dst, .rsl 1 (ints l)] = some (.bool true) ∧ ∃ T, ref25_Step.spec [.agg o.cells, .int .i64 dst, .rsl 1 (ints l)] = some (.rsl 1 T) ∧ ref25_Same.spec [.rsl 5 R, .rsl 1 T] = some (.bool true))) := by
  have hS := EStep_eq o dst l (by omega)
  have hF := Fits_eq o dst l (by omega)
  cases hfit : fitsI o dst l with
  | false =>
    rw [hfit] at hS hF
    rw [if_neg (by simp)] at hS
    exact ⟨_, hS, .inl ⟨hF, rfl⟩⟩
  | true =>
    rw [hfit] at hS hF
    rw [if_pos rfl] at hS
    obtain ⟨hk, hlen, hd, hany, hn⟩ := fits_parts o dst l hfit
    obtain ⟨m, rfl, hm⟩ := slots_nat l hany
    obtain ⟨k, rfl⟩ : ∃ k : Nat, dst = k := ⟨dst.toNat, by omega⟩
    have hmm : (m.map fun x : Nat => (x : Int)).map Int.toNat = m := by rw [List.map_map]; exact (List.map_congr_left fun x _ => by simp).trans (List.map_id m)
    rw [hmm, Int.toNat_natCast] at hS
    have hR := rStep_eq' o k m hfit
    have htk : takesM o.k ≤ 2 := by unfold takesM; repeat' split <;> omega
    have hm2 : m.length ≤ 2 := by rw [List.length_map] at hlen; omega
    have hM := rSame_eq25 (stepI o k m) (stepI_used o hn k (by omega) m (by omega) hm) (by have := stepI_len o k m (by omega); omega)
    exact ⟨_, hS, .inr ⟨by rw [List.length_map]; exact hm2, hF, _, hR, hM⟩⟩
theorem emitSteps_law (o : OpM) (dst : Int) (src : List Int) (hl : src.length ≤ 100000000000000) : law25_EmitSteps.spec [.agg o.cells, .int .i64 dst, .rsl 1 (ints src)] = some (.bool true) := by
  by_cases h10 : src.length ≤ 10
  · obtain ⟨R, hS, hC⟩ := ES_core o dst src h10
    have h10' : ¬ (10 : Int) < src.length := by omega
    unfold OpM.cells at *
    rcases hC with ⟨hF, rfl⟩ | ⟨_, hF, T, hR, hM⟩
    · simp -implicitDefEqProofs +contextual (disch := omega) [law25_EmitSteps.spec, law25_EmitSteps, h10', hS, hF, lives25]
    · simp -implicitDefEqProofs +contextual (disch := omega) [law25_EmitSteps.spec, law25_EmitSteps, h10', hS, hF, hR, hM, lives25]
  · obtain ⟨R, hS, hC⟩ := ES_core o dst (src.take 10) (by simp; omega)
    have h10' : (10 : Int) < src.length := by omega
    have ht : (ints src).take 10 = ints (src.take 10) := ints_take src 10
    have ht2 : (ints (src.take 10)).take 10 = ints (src.take 10) := by rw [ints_take, List.take_take]; rfl
    unfold OpM.cells at *
    rcases hC with ⟨hF, rfl⟩ | ⟨hl2, _⟩
    · simp -implicitDefEqProofs +contextual (disch := omega) [law25_EmitSteps.spec, law25_EmitSteps, h10', ht, ht2, hS, hF, lives25]
    · rw [List.length_take] at hl2; omega
theorem law25_EmitSteps_law (args : List AV) (h : ArgsSh [(true, [.int .i64, .int .i64, .int .i64, .int .u32]), (false, [.int .i64]), (false, [.sl 1 8 [.int .i64]])] args) : law25_EmitSteps.spec args = some (.bool true) := by
  obtain ⟨cs, _, rfl, h1, h⟩ := args_agg h
  obtain ⟨a, _, rfl, h2, h⟩ := args_one h
  obtain ⟨b, _, rfl, h3, h⟩ := args_one h
  obtain rfl := args_nil h
  obtain ⟨x0, _, rfl, q0, h1⟩ := shs_cons h1
  obtain ⟨x1, _, rfl, q1, h1⟩ := shs_cons h1
  obtain ⟨x2, _, rfl, q2, h1⟩ := shs_cons h1
  obtain ⟨x3, rfl, q3⟩ := shs_one h1
  obtain ⟨y0, rfl, _⟩ := sh_i64 q0
  obtain ⟨y1, rfl, _⟩ := sh_i64 q1
  obtain ⟨y2, rfl, _⟩ := sh_i64 q2
  obtain ⟨y3, rfl⟩ := sh_u32 q3
  obtain ⟨d, rfl, _⟩ := sh_i64 h2.1
  obtain ⟨l, rfl, hl, _⟩ := sh_slint h3.1
  exact emitSteps_law ⟨y0, y1, y2, y3⟩ d l (by omega)
end Go.Abs
