/-
  Which instruction a halfword is, in plain Lean.
-/
import Derived.Test.YtgcfbommjdcgkaaThN2
set_option linter.unusedSimpArgs false
set_option linter.unusedVariables false
namespace Go.Abs.Th
def Pre (op h : Nat) : Prop := h / 2 ^ free op = (shp op).bits / 2 ^ free op
instance (op h : Nat) : Decidable (Pre op h) := inferInstanceAs (Decidable (_ = _))
theorem back (op : Nat) (hop : op ≤ 20) (h : Nat) (hh : Pre op h) (hc : (candN op h).can = true) : putN (candN op h) = h := by
  revert hh hc
  exact cases21 (P := fun op => Pre op h → (candN op h).can = true → putN (candN op h) = h) op hop (back0 h) (back1 h) (back2 h) (back3 h) (back4 h) (back5 h) (back6 h) (back7 h) (back8 h) (back9 h) (back10 h) (back11 h) (back12 h) (back13 h) (back14 h) (back15 h) (back16 h) (back17 h) (back18 h) (back19 h) (back20 h)
theorem forth (i : InsM) (hc : i.can = true) : Pre i.op.toNat (putN i) ∧ candN i.op.toNat (putN i) = i ∧ putN i < 65536 := by
  obtain ⟨op, d, n, m, imm⟩ := i
  obtain ⟨⟨h0, h1⟩, _⟩ := (can_iff _).1 hc
  dsimp only at h0 h1 ⊢
  obtain ⟨k, rfl⟩ : ∃ k : Nat, op = k := ⟨op.toNat, by omega⟩
  rw [Int.toNat_natCast]
  have hk : k ≤ 20 := by omega
  clear h0 h1
  revert hc
  exact cases21 (P := fun k => (InsM.mk k d n m imm).can = true → Pre k (putN ⟨k, d, n, m, imm⟩) ∧ candN k (putN ⟨k, d, n, m, imm⟩) = ⟨k, d, n, m, imm⟩ ∧ putN ⟨k, d, n, m, imm⟩ < 65536) k hk (forth0 d n m imm) (forth1 d n m imm) (forth2 d n m imm) (forth3 d n m imm) (forth4 d n m imm) (forth5 d n m imm) (forth6 d n m imm) (forth7 d n m imm) (forth8 d n m imm) (forth9 d n m imm) (forth10 d n m imm)
    (forth11 d n m imm) (forth12 d n m imm) (forth13 d n m imm) (forth14 d n m imm) (forth15 d n m imm) (forth16 d n m imm) (forth17 d n m imm) (forth18 d n m imm) (forth19 d n m imm) (forth20 d n m imm)
theorem putR_eq (i : InsM) (hc : i.can = true) : putR i = putN i := by
  obtain ⟨op, d, n, m, imm⟩ := i
  obtain ⟨⟨h0, h1⟩, _⟩ := (can_iff _).1 hc
  dsimp only at h0 h1
  obtain ⟨k, rfl⟩ : ∃ k : Nat, op = k := ⟨op.toNat, by omega⟩
  have hk : k ≤ 20 := by omega
  clear h0 h1
  revert hc
  exact cases21 (P := fun k => (InsM.mk k d n m imm).can = true → putR ⟨k, d, n, m, imm⟩ = putN ⟨k, d, n, m, imm⟩) k hk (putR0 d n m imm) (putR1 d n m imm) (putR2 d n m imm) (putR3 d n m imm) (putR4 d n m imm) (putR5 d n m imm) (putR6 d n m imm) (putR7 d n m imm) (putR8 d n m imm) (putR9 d n m imm) (putR10 d n m imm)
    (putR11 d n m imm) (putR12 d n m imm) (putR13 d n m imm) (putR14 d n m imm) (putR15 d n m imm) (putR16 d n m imm) (putR17 d n m imm) (putR18 d n m imm) (putR19 d n m imm) (putR20 d n m imm)
theorem candN_op (op h : Nat) (hop : op ≤ 20) : (candN op h).op = op :=
  cases21 (P := fun op => (candN op h).op = op) op hop (by rw [cn0]; rfl) (by rw [cn1]; rfl) (by rw [cn2]; rfl) (by rw [cn3]; rfl) (by rw [cn4]; rfl) (by rw [cn5]; rfl) (by rw [cn6]; rfl) (by rw [cn7]; rfl) (by rw [cn8]; rfl) (by rw [cn9]; rfl) (by rw [cn10]; rfl)
    (by rw [cn11]; rfl) (by rw [cn12]; rfl) (by rw [cn13]; rfl) (by rw [cn14]; rfl) (by rw [cn15]; rfl) (by rw [cn16]; rfl) (by rw [cn17]; rfl) (by rw [cn18]; rfl) (by rw [cn19]; rfl) (by rw [cn20]; rfl)
theorem apart : ∀ op : Nat, op ≤ 20 → ∀ op' : Nat, op' ≤ 20 → op ≠ op' → (shp op).bits / 2 ^ (max (free op) (free op')) ≠ (shp op').bits / 2 ^ (max (free op) (free op')) := by decide +kernel
theorem pre_one {op op' h : Nat} (h1 : op ≤ 20) (h2 : op' ≤ 20) (p : Pre op h) (q : Pre op' h) : op = op' := by
  refine Decidable.byContradiction fun hn => apart op h1 op' h2 hn ?_
  have key : ∀ a b n m : Nat, a / 2 ^ n = b / 2 ^ n → n ≤ m → a / 2 ^ m = b / 2 ^ m := by
    intro a b n m e hl
    obtain ⟨k, rfl⟩ : ∃ k, m = n + k := ⟨m - n, by omega⟩
    rw [Nat.pow_add, ← Nat.div_div_eq_div_mul, ← Nat.div_div_eq_div_mul, e]
  rw [← key _ _ _ _ p (by omega), key _ _ _ _ q (by omega)]
theorem isN_iff (op h : Nat) (hop : op ≤ 20) : isN op h = true ↔ Pre op h ∧ (candN op h).can = true := by
  unfold isN
  simp only [Bool.and_eq_true, beq_iff_eq]
  constructor
  · rintro ⟨h1, h2⟩
    have := (forth _ h1).1
    rw [h2, candN_op op h hop, Int.toNat_natCast] at this
    exact ⟨this, h1⟩
  · rintro ⟨h1, h2⟩
    exact ⟨h2, back op hop h h1 h2⟩
theorem isR_eq (op h : Nat) (hop : op ≤ 20) (hh : h < 65536) : isR op h = isN op h := by
  rw [Bool.eq_iff_iff, isN_iff op h hop]
  unfold isR
  rw [(takeS_eq op hop h hh).1, (takeS_eq op hop h hh).2]
  simp [Pre]
theorem takeGo_hit (h op : Nat) (hop : op ≤ 20) (hi : isN op h = true) : ∀ k s : Nat, s + k = 21 → s ≤ op → takeGo h k s = (candN op h, 0)
  | 0, s, h1, h2 => by omega
  | k + 1, s, h1, h2 => by
    unfold takeGo
    by_cases e : isN s h = true
    · rw [if_pos e, pre_one (by omega) hop ((isN_iff s h (by omega)).1 e).1 ((isN_iff op h hop).1 hi).1]
    · rw [if_neg e]
      exact takeGo_hit h op hop hi k (s + 1) (by omega) (by
        have : s ≠ op := fun q => e (q ▸ hi)
        omega)
theorem takeGo_miss (h : Nat) (hn : ∀ op, op ≤ 20 → isN op h = false) : ∀ k s : Nat, s + k = 21 → takeGo h k s = (InsM.zero, 20)
  | 0, s, _ => rfl
  | k + 1, s, h1 => by
    unfold takeGo
    rw [hn s (by omega)]
    exact takeGo_miss h hn k (s + 1) (by omega)
theorem takeN_hit {op h : Nat} (hop : op ≤ 20) (hi : isN op h = true) : takeN h = (candN op h, 0) := takeGo_hit h op hop hi 21 0 rfl (by omega)
theorem takeN_miss {h : Nat} (hn : ∀ op, op ≤ 20 → isN op h = false) : takeN h = (InsM.zero, 20) := takeGo_miss h hn 21 0 rfl
/-- What is put comes back. -/
theorem take_put (i : InsM) (hc : i.can = true) : takeN (putN i) = (i, 0) := by
  obtain ⟨h1, h2, h3⟩ := forth i hc
  have h0 := ((can_iff _).1 hc).1
  rw [takeN_hit (op := i.op.toNat) (by omega) ((isN_iff _ _ (by omega)).2 ⟨h1, by rw [h2]; exact hc⟩), h2]
/-- What is taken is an instruction, whose halfword it is; or there is none. -/
theorem takeN_or (h : Nat) : (∃ i : InsM, i.can = true ∧ putN i = h ∧ takeN h = (i, 0)) ∨ takeN h = (InsM.zero, 20) := by
  by_cases e : ∃ op, op ≤ 20 ∧ isN op h = true
  · obtain ⟨op, h1, h2⟩ := e
    have h3 := (isN_iff op h h1).1 h2
    exact .inl ⟨candN op h, h3.2, back op h1 h h3.1 h3.2, takeN_hit h1 h2⟩
  · refine .inr (takeN_miss fun op h1 => ?_)
    cases q : isN op h with
    | false => rfl
    | true => exact (e ⟨op, h1, q⟩).elim
theorem putN_inj {i j : InsM} (hi : i.can = true) (hj : j.can = true) (h : putN i = putN j) : i = j := by
  have h1 := take_put i hi; have h2 := take_put j hj
  rw [h, h2] at h1; exact (congrArg Prod.fst h1).symm
end Go.Abs.Th
