/-
  The law of the word on the bus.
-/
import Derived.Test.YtncablokgkejjaaK3
import Derived.Test.YtncablokgkejjaaC10
import Derived.Test.YtncablokgkejjaaT2
set_option linter.unusedSimpArgs false
set_option linter.unusedVariables false
namespace Go.Abs
open Th
def busW (x : BitVec 32) : BitVec 16 := (24576#32 + 2048#32 * (x % 2#32) + 64#32 * (x / 2#32 % 4#32) + 8#32).setWidth 16
def busI (x : BitVec 32) : InsM := ⟨if x % 2#32 = 0#32 then 13 else 12, 0, 1, 0, (x / 2#32 % 4#32).toNat⟩
theorem bus_cases (x : BitVec 32) : (x % 2#32 = 0#32 ∨ x % 2#32 = 1#32) ∧ (x / 2#32 % 4#32 = 0#32 ∨ x / 2#32 % 4#32 = 1#32 ∨ x / 2#32 % 4#32 = 2#32 ∨ x / 2#32 % 4#32 = 3#32) := by
  constructor
  · have h : (x % 2#32).toNat < 2 := by rw [BitVec.toNat_umod]; exact Nat.mod_lt _ (by decide)
    have : (x % 2#32).toNat = 0 ∨ (x % 2#32).toNat = 1 := by omega
    rcases this with q | q
    · exact .inl (BitVec.eq_of_toNat_eq q)
    · exact .inr (BitVec.eq_of_toNat_eq q)
  · have h : (x / 2#32 % 4#32).toNat < 4 := by rw [BitVec.toNat_umod]; exact Nat.mod_lt _ (by decide)
    have : (x / 2#32 % 4#32).toNat = 0 ∨ (x / 2#32 % 4#32).toNat = 1 ∨ (x / 2#32 % 4#32).toNat = 2 ∨ (x / 2#32 % 4#32).toNat = 3 := by omega
    rcases this with q | q | q | q
    · exact .inl (BitVec.eq_of_toNat_eq q)
    · exact .inr (.inl (BitVec.eq_of_toNat_eq q))
    · exact .inr (.inr (.inl (BitVec.eq_of_toNat_eq q)))
    · exact .inr (.inr (.inr (BitVec.eq_of_toNat_eq q)))
theorem bus_can (x : BitVec 32) : (busI x).can = true ∧ takeN (busW x).toNat = (busI x, 0) := by
  obtain ⟨h1, h2⟩ := bus_cases x
  have key : ∀ a k : BitVec 32, (a = 0#32 ∨ a = 1#32) → (k = 0#32 ∨ k = 1#32 ∨ k = 2#32 ∨ k = 3#32) → (InsM.mk (if a = 0#32 then 13 else 12) 0 1 0 k.toNat).can = true ∧
      putN ⟨if a = 0#32 then 13 else 12, 0, 1, 0, k.toNat⟩ = ((24576#32 + 2048#32 * a + 64#32 * k + 8#32).setWidth 16).toNat := by
    rintro a k (rfl | rfl) (rfl | rfl | rfl | rfl) <;> decide
  obtain ⟨q1, q2⟩ := key _ _ h1 h2
  refine ⟨q1, ?_⟩
  unfold busW busI
  rw [← q2]
  exact take_put _ q1
theorem bus_step (s : StM) (m : MemM) (x : BitVec 32) (hf : m.fetch s.pc = (busW x, 0)) (hr : s.reg 1 = 536870912#32) (hw : m.words.length = 4) :
    (stepM s m).e = 0 ∧ (stepM s m).s.reg 1 = 536870912#32 ∧ (stepM s m).s.pc = s.pc + 2#32 ∧ (leakM s m).bus = m.bus ∧ (leakM s m).memory = true ∧ (leakM s m).addr = 536870912#32 + 4#32 * (x / 2#32 % 4#32) ∧ (leakM s m).random = false ∧ (leakM s m).r = (stepM s m).m.bus := by
  obtain ⟨hc, ht⟩ := bus_can x
  obtain ⟨h1, h2⟩ := bus_cases x
  have hd : stepM s m = doM (busI x) s m := by
    unfold stepM; rw [hf, if_pos rfl]; dsimp only; rw [ht, if_pos rfl]
  have hk : ∃ k : BitVec 32, x / 2#32 % 4#32 = k ∧ k.toNat < 4 := ⟨_, rfl, by rw [BitVec.toNat_umod]; exact Nat.mod_lt _ (by decide)⟩
  obtain ⟨k, hk, hk4⟩ := hk
  have himm : immW ((k.toNat : Nat) : Int) = k := by unfold immW; rw [BitVec.ofInt_natCast, BitVec.ofNat_toNat, BitVec.setWidth_eq]
  have haddr : (536870912#32 + 4#32 * k) % 4#32 = 0#32 ∧ 536870912#32 + 4#32 * k ≠ 1073741824#32 ∧ m.at (536870912#32 + 4#32 * k) = true := by
    rw [hk] at h2
    rcases h2 with rfl | rfl | rfl | rfl <;> simp [MemM.at, wslot, hw]
  obtain ⟨a1, a2, a3⟩ := haddr
  have hcan := hc
  unfold leakM
  rcases h1 with h1 | h1
  · have hi : busI x = ⟨13, 0, 1, 0, k.toNat⟩ := by unfold busI; rw [if_pos h1, hk]
    rw [hi] at hc ht hd
    have hst : m.store (536870912#32 + 4#32 * k) (s.reg 0) = (0, { m with words := m.words.set (wslot (536870912#32 + 4#32 * k)) (s.reg 0), bus := s.reg 0 }) := by
      unfold MemM.store; rw [if_pos ⟨a3, a1⟩]
    have hdo : doM ⟨13, 0, 1, 0, k.toNat⟩ s m = ⟨s.setPC (s.pc + 2#32), { m with words := m.words.set (wslot (536870912#32 + 4#32 * k)) (s.reg 0), bus := s.reg 0 }, false, 0⟩ := by
      simp [doM, moveM, addrM, himm, hr, hst]
    rw [hd, hdo, hf]
    dsimp only
    rw [if_pos rfl, ht, hk]
    refine ⟨rfl, hr, rfl, rfl, ?_⟩
    simp [leakI, opsM, placeM, flaggedM, isStore, writesM, hc, himm, hr, a2]
  · have hi : busI x = ⟨12, 0, 1, 0, k.toNat⟩ := by unfold busI; rw [if_neg (by rw [h1]; decide), hk]
    rw [hi] at hc ht hd
    have hld : m.loads (536870912#32 + 4#32 * k) = ((at0 m.words (wslot (536870912#32 + 4#32 * k)), 0), { m with bus := at0 m.words (wslot (536870912#32 + 4#32 * k)) }) := by
      have : m.load (536870912#32 + 4#32 * k) = ((at0 m.words (wslot (536870912#32 + 4#32 * k)), 0), m) := by
        unfold MemM.load; rw [if_neg (by simpa using a1), if_neg a2, if_pos a3]
      unfold MemM.loads; rw [this]; rfl
    have hdo : doM ⟨12, 0, 1, 0, k.toNat⟩ s m = ⟨(s.setR 0 (at0 m.words (wslot (536870912#32 + 4#32 * k)))).setPC (s.pc + 2#32), { m with bus := at0 m.words (wslot (536870912#32 + 4#32 * k)) }, false, 0⟩ := by
      simp [doM, moveM, addrM, himm, hr, hld]
    rw [hd, hdo, hf]
    dsimp only
    rw [if_pos rfl, ht, hk]
    have hs0 : (s.setR 0 (at0 m.words (wslot (536870912#32 + 4#32 * k)))).reg 0 = at0 m.words (wslot (536870912#32 + 4#32 * k)) := by
      have := s.len
      simp [StM.reg, StM.setR, at0, this]
    have hs1 : ∀ v, (s.setR 0 v).reg 1 = s.reg 1 := fun v => by simp [StM.reg, StM.setR, at0]
    refine ⟨rfl, by rw [setPC_reg, hs1, hr], rfl, rfl, ?_⟩
    simp [leakI, opsM, placeM, flaggedM, isStore, writesM, hc, himm, hr, a2, hs0]
end Go.Abs
