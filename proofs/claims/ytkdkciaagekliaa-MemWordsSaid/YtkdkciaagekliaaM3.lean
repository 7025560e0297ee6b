/-
  The law of the code's words, over abstract values.
-/
import Derived.Test.YtkdkciaagekliaaM5
set_option linter.unusedSimpArgs false
set_option linter.unusedVariables false
namespace Go.Abs
theorem at0_take {n : Nat} (l : List (BitVec n)) (k i : Nat) (h : i < k) : at0 (l.take k) i = at0 l i := by
  simp [at0, List.getD_eq_getElem?_getD, List.getElem?_take, h]
theorem memFlash_law (code0 : List (BitVec 16)) (pos : BitVec 16) : law05_MemFlash.spec [.rsl 1 (w16s code0), W16 pos] = some (.bool true) := by
  have hs := short_eq code0 []
  simp only [w32s, List.map_nil, List.take_nil] at hs
  generalize hC : code0.take 300 = code at hs
  have hl : code.length ≤ 300 := by rw [← hC]; simp; omega
  obtain ⟨X, x1, x2, hn, _⟩ := new_ex AHeap.empty code [] 0 AHeap.WF.empty (by omega) (by simp)
  simp only [empty_next, w32s, List.map_nil, Nat.zero_add] at hn x2
  have hm : MemM.new code 0 [] = ⟨code, [], [], 0, 0#32⟩ := by simp [MemM.new, List.take_of_length_le (show code.length ≤ 60000 by omega)]; omega
  rw [hm] at hn
  have h4 : (pos.setWidth 32 * 4#32).toNat = pos.toNat * 4 := by
    have := pos.isLt
    rw [BitVec.toNat_mul, BitVec.toNat_setWidth]; simp; omega
  have h4' : (pos.setWidth 32 * 4#32 + 2#32).toNat = pos.toNat * 4 + 2 := by
    have := pos.isLt
    rw [BitVec.toNat_add, h4]; simp; omega
  generalize hA : pos.setWidth 32 * 4#32 = a at h4 h4'
  have hlt := pos.isLt
  have e4 : a % 4#32 = 0#32 := by apply BitVec.eq_of_toNat_eq; rw [BitVec.toNat_umod, h4]; simp
  have e2 : a % 2#32 = 0#32 := by apply BitVec.eq_of_toNat_eq; rw [BitVec.toNat_umod, h4]; simp; omega
  have e2' : (a + 2#32) % 2#32 = 0#32 := by apply BitVec.eq_of_toNat_eq; rw [BitVec.toNat_umod, h4']; simp; omega
  have ep : a ≠ 1073741824#32 := by intro e; rw [e] at h4; simp at h4; omega
  have en : (MemM.mk code [] [] 0 0#32).at a = false := by simp [MemM.at]
  have d1 : a.toNat / 2 = 2 * pos.toNat := by omega
  have d2 : (a + 2#32).toNat / 2 = 2 * pos.toNat + 1 := by omega
  have hok : (MemM.mk code [] [] 0 0#32).Ok := ⟨by dsimp only; omega, by simp, by simp, by simp⟩
  have hL := Load_eq X 1 0 _ x1 (by omega) (by omega) a (by omega) hok
  have hF1 := fun m (hm : MemM.Ok m) => Fetch_eq X 1 0 m x1 (by omega) (by omega) a hm
  have hF2 := fun m (hm : MemM.Ok m) => Fetch_eq X 1 0 m x1 (by omega) (by omega) (a + 2#32) hm
  have hB := fun m => Bus_eq X 1 0 m x1 (by omega) (by omega)
  by_cases h1 : 2 * pos.toNat + 1 < code.length
  · have hv : (MemM.mk code [] [] 0 0#32).loads a = (((at0 code (2 * pos.toNat)).setWidth 32 ||| (at0 code (2 * pos.toNat + 1)).setWidth 32 <<< 16, 0), ⟨code, [], [], 0, (at0 code (2 * pos.toNat)).setWidth 32 ||| (at0 code (2 * pos.toNat + 1)).setWidth 32 <<< 16⟩) := by
      simp [MemM.loads, MemM.load, e4, ep, en, d1, h1]
    have hok2 : ∀ w, (MemM.mk code [] [] 0 w).Ok := fun w => ⟨by dsimp only; omega, by simp, by simp, by simp⟩
    rw [hv] at hL
    have f1 := hF1 _ (hok2 ((at0 code (2 * pos.toNat)).setWidth 32 ||| (at0 code (2 * pos.toNat + 1)).setWidth 32 <<< 16))
    have f2 := hF2 _ (hok2 ((at0 code (2 * pos.toNat)).setWidth 32 ||| (at0 code (2 * pos.toNat + 1)).setWidth 32 <<< 16))
    simp only [MemM.fetch, e2, e2', d1, d2, h1, show 2 * pos.toNat < code.length from by omega, and_self, if_true] at f1 f2
    dsimp only at hL
    rw [halves_word] at hL f1 f2
    have fB := hB (MemM.mk code [] [] 0 ((at0 code (2 * pos.toNat)).setWidth 32 + 65536#32 * (at0 code (2 * pos.toNat + 1)).setWidth 32))
    simp -implicitDefEqProofs +contextual (disch := omega) [law05_MemFlash.spec, law05_MemFlash, hs, hn, hA, hL, f1, f2, fB, lives05]
  · have hv : (MemM.mk code [] [] 0 0#32).loads a = ((0#32, 50), ⟨code, [], [], 0, 0#32⟩) := by
      simp [MemM.loads, MemM.load, e4, ep, en, d1, h1]
    rw [hv] at hL
    have f1 := hF1 _ hok
    have f2 := hF2 _ hok
    simp only [MemM.fetch, e2, e2', d1, d2, h1, and_false, true_and, if_false] at f1 f2
    by_cases h2 : 2 * pos.toNat < code.length
    · simp only [h2, if_true] at f1
      simp -implicitDefEqProofs +contextual (disch := omega) [law05_MemFlash.spec, law05_MemFlash, hs, hn, hA, hL, f1, f2, lives05]
    · simp only [h2, if_false] at f1
      simp -implicitDefEqProofs +contextual (disch := omega) [law05_MemFlash.spec, law05_MemFlash, hs, hn, hA, hL, f1, f2, lives05]
theorem law05_MemFlash_law (args : List AV) (h : ArgsSh [(false, [.sl 1 2 [.int .u16]]), (false, [.int .u16])] args) : law05_MemFlash.spec args = some (.bool true) := by
  match args, h with
  | [a, b], ⟨h1, h2, _⟩ =>
    obtain ⟨l, rfl, _⟩ := sh_sl16 h1.1
    obtain ⟨x, rfl⟩ := sh_u16 h2.1
    exact memFlash_law l x
end Go.Abs
