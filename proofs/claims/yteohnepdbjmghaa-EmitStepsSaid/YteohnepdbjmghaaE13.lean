/-
  The laws EmitSlots and EmitSteps, their parts.
-/
import Derived.Test.YteohnepdbjmghaaE12
set_option linter.unusedSimpArgs false
set_option linter.unusedVariables false
namespace Go.Abs
open Th
theorem can_k (k : Nat) (hk : k ≤ 20) (d n m imm : Int) (h : (shp k).low ≤ imm ∧ imm ≤ (shp k).high ∧ 0 ≤ d ∧ d ≤ maxD k ∧ 0 ≤ n ∧ n ≤ maxN k ∧ 0 ≤ m ∧ m ≤ maxM k) : (InsM.mk (k : Nat) d n m imm).can = true := (can_op k hk d n m imm).2 h
theorem used_mv (d n : Int) (hd : 0 ≤ d ∧ d ≤ 7) (hn : 0 ≤ n ∧ n ≤ 255) : usedI (mvI d n) :=
  ⟨.inl rfl, can_k 0 (by omega) d 0 0 n ⟨hn.1, hn.2, hd.1, hd.2, by decide, by decide, by decide, by decide⟩⟩
theorem used_ad (d n : Int) (hd : 0 ≤ d ∧ d ≤ 7) (hn : 0 ≤ n ∧ n ≤ 255) : usedI (adI d n) :=
  ⟨.inr (.inl rfl), can_k 2 (by omega) d 0 0 n ⟨hn.1, hn.2, hd.1, hd.2, by decide, by decide, by decide, by decide⟩⟩
theorem used_lf (d n : Int) (hd : 0 ≤ d ∧ d ≤ 7) (hn : 0 ≤ n ∧ n ≤ 31) : usedI (lfI d n) :=
  ⟨.inr (.inr (.inl rfl)), can_k 4 (by omega) d 0 d n ⟨hn.1, hn.2, hd.1, hd.2, by decide, by decide, hd.1, hd.2⟩⟩
theorem used_lsr (d n : Int) (hd : 0 ≤ d ∧ d ≤ 7) (hn : 1 ≤ n ∧ n ≤ 32) : usedI ⟨5, d, 0, d, n⟩ :=
  ⟨.inr (.inr (.inr (.inl rfl))), can_k 5 (by omega) d 0 d n ⟨hn.1, hn.2, hd.1, hd.2, by decide, by decide, hd.1, hd.2⟩⟩
theorem used_al (op d m : Int) (ho : op = 0 ∨ op = 1 ∨ op = 7 ∨ op = 15) (hd : 0 ≤ d ∧ d ≤ 7) (hm : 0 ≤ m ∧ m ≤ 7) : usedI (alI op d m) := by
  refine ⟨.inr (.inr (.inr (.inr (.inl ⟨rfl, ho⟩)))), can_k 11 (by omega) d 0 m op ⟨?_, ?_, hd.1, hd.2, by decide, by decide, hm.1, hm.2⟩⟩
  · show (0 : Int) ≤ op; omega
  · show op ≤ (15 : Int); omega
theorem used_ldi : usedI ⟨12, 0, 5, 0, 0⟩ := ⟨.inr (.inr (.inr (.inr (.inr (.inl rfl))))), by decide⟩
theorem used_ldr (r : Int) (hr : 0 ≤ r ∧ r ≤ 7) : usedI ⟨14, r, 7, 6, 0⟩ :=
  ⟨.inr (.inr (.inr (.inr (.inr (.inr (.inl rfl)))))), can_k 14 (by omega) r 7 6 0 ⟨by decide, by decide, hr.1, hr.2, by decide, by decide, by decide, by decide⟩⟩
theorem used_str : usedI ⟨15, 0, 7, 6, 0⟩ := ⟨.inr (.inr (.inr (.inr (.inr (.inr (.inr rfl)))))), by decide⟩
theorem UsedL.append {a b : List InsM} (ha : UsedL a) (hb : UsedL b) : UsedL (a ++ b) := fun i hi => (List.mem_append.1 hi).elim (ha i) (hb i)
theorem UsedL.one {i : InsM} (h : usedI i) : UsedL [i] := fun j hj => by rw [List.mem_singleton.1 hj]; exact h
theorem UsedL.cons {i : InsM} {l : List InsM} (h : usedI i) (hl : UsedL l) : UsedL (i :: l) := fun j hj => (List.mem_cons.1 hj).elim (fun e => e ▸ h) (hl j)
theorem UsedL.nil : UsedL [] := fun j hj => by simp at hj
theorem atI_used (n : Nat) (h : n ≤ 16000) : UsedL (atI n) := by
  unfold atI
  split
  · exact .one (used_mv _ _ (by omega) (by omega))
  · exact .cons (used_mv _ _ (by omega) (by omega)) (.cons (used_lf _ _ (by omega) (by omega)) (.one (used_ad _ _ (by omega) (by omega))))
theorem getI_used (r : Int) (hr : 0 ≤ r ∧ r ≤ 7) (n : Nat) (h : n ≤ 16000) : UsedL (getI r n) := (atI_used n h).append (.one (used_ldr r hr))
theorem putI_used (n : Nat) (h : n ≤ 16000) : UsedL (putI n) := (atI_used n h).append (.one used_str)
theorem beginI_used : UsedL beginI := .cons (used_mv _ _ (by decide) (by decide)) (.cons (used_lf _ _ (by decide) (by decide)) (.cons (used_mv _ _ (by decide) (by decide)) (.one (used_lf _ _ (by decide) (by decide)))))
theorem byteI_le (v : BitVec 32) (j : Nat) : byteI v j ≤ 255 := by
  unfold byteI
  rw [BitVec.toNat_and]
  exact Nat.and_le_right
theorem constUp_used (v : BitVec 32) : ∀ j, UsedL (constUp v j)
  | 0 => UsedL.nil
  | j + 1 => by
    have hb := byteI_le v j
    unfold constUp
    split
    · exact (constUp_used v j).append (.cons (used_lf _ _ (by decide) (by decide)) (.one (used_ad _ _ (by decide) (by omega))))
    · split
      · exact .one (used_mv _ _ (by decide) (by omega))
      · exact UsedL.nil
def numOk (o : OpM) : Prop := (o.k = 4 ∨ o.k = 5 ∨ o.k = 6) → o.n.toNat < 32
theorem doesI_used (o : OpM) (hn : numOk o) : UsedL (doesI o) := by
  unfold doesI numOk at *
  split
  · exact .one (used_al _ _ _ (by decide) (by decide) (by decide))
  split
  · exact .one (used_al _ _ _ (by decide) (by decide) (by decide))
  split
  · exact .one (used_al _ _ _ (by decide) (by decide) (by decide))
  split
  · rename_i h; have := hn (.inl h); exact .one (used_lf _ _ (by decide) (by omega))
  split
  · rename_i h
    have := hn (.inr (.inl h))
    split
    · exact .one (used_lf _ _ (by decide) (by decide))
    · rename_i h0
      have : o.n.toNat ≠ 0 := fun e => h0 (BitVec.eq_of_toNat_eq (by simpa using e))
      exact .one (used_lsr _ _ (by decide) (by omega))
  split
  · have : ((32#32 - o.n) % 32#32).toNat < 32 := by rw [BitVec.toNat_umod]; exact Nat.mod_lt _ (by decide)
    exact .cons (used_mv _ _ (by decide) (by omega)) (.one (used_al _ _ _ (by decide) (by decide) (by decide)))
  split
  · exact constUp_used _ _
  split
  · exact .one used_ldi
  · exact UsedL.nil
theorem regsI_used : ∀ (src : List Nat) (r : Int), 0 ≤ r → r + src.length ≤ 8 → (∀ x ∈ src, x ≤ 16000) → UsedL (regsI src r)
  | [], _, _, _, _ => UsedL.nil
  | x :: l, r, h0, h8, hx => by
    simp only [List.length_cons] at h8
    exact (getI_used r (by omega) x (hx x (by simp))).append (regsI_used l (r + 1) (by omega) (by omega) fun y hy => hx y (by simp [hy]))
theorem stepI_used (o : OpM) (hn : numOk o) (dst : Nat) (hd : dst ≤ 16000) (src : List Nat) (hs : src.length ≤ 8) (hx : ∀ x ∈ src, x ≤ 16000) : UsedL (stepI o dst src) := by
  refine (((UsedL.append ?_ (regsI_used src 0 (by decide) (by omega) hx)).append (doesI_used o hn)).append (putI_used dst hd))
  unfold headI
  refine .cons (used_mv _ _ (by decide) (by decide)) ?_
  split
  · exact .one (used_mv _ _ (by decide) (by decide))
  · exact UsedL.nil
theorem livesLines : linesI (stepI ⟨3, 0, 0, 0#32⟩ 1 [0]) = [[109, 111, 118, 115, 32, 114, 48, 44, 32, 35, 48], [109, 111, 118, 115, 32, 114, 54, 44, 32, 35, 48], [108, 100, 114, 32, 114, 48, 44, 32, 91, 114, 55, 44, 32, 114, 54, 93], [109, 118, 110, 115, 32, 114, 48, 44, 32, 114, 48], [109, 111, 118, 115, 32, 114, 54, 44, 32, 35, 52], [115, 116, 114, 32, 114, 48, 44, 32, 91, 114, 55, 44, 32, 114, 54, 93]] := by decide +kernel
theorem lives25 : law25_lives.spec [] = some (.bool true) := by
  have hS := EStep_eq ⟨3, 0, 0, 0#32⟩ 1 [0] (by decide)
  rw [if_pos (show fitsI ⟨3, 0, 0, 0#32⟩ 1 [0] = true by decide +kernel)] at hS
  rw [show (1 : Int).toNat = 1 from rfl, show ([0] : List Int).map Int.toNat = [0] from rfl] at hS
  have hM := rSame_eq25 (stepI ⟨3, 0, 0, 0#32⟩ 1 [0]) (stepI_used _ (fun h => by simp at h) 1 (by decide) [0] (by decide) (by decide)) (by decide +kernel)
  rw [livesLines] at hM
  unfold OpM.cells at hS
  simp only [ints, List.map_cons, List.map_nil] at hS
  generalize stepI ⟨3, 0, 0, 0#32⟩ 1 [0] = L at *
  simp only [strRows, List.map_cons, List.map_nil] at hM
  simp -implicitDefEqProofs +contextual (disch := omega) [law25_lives.spec, law25_lives, hS, hM]
theorem emitSlots_law (n : Int) (hI : I64 n) : law25_EmitSlots.spec [.int .i64 n] = some (.bool true) := by
  have h1 := Slot_eq n
  have h3 := begin_eq
  have h4 := rBegin_eq
  have h5 := rSame_eq25 beginI beginI_used (by decide)
  by_cases h : 0 ≤ n ∧ n ≤ 16000
  · obtain ⟨k, rfl⟩ : ∃ k : Nat, n = k := ⟨n.toNat, by omega⟩
    rw [if_pos h, Int.toNat_natCast] at h1
    have h2 := rSlot_eq k (by omega)
    have h6 := rSame_eq25 (atI k) (atI_used k (by omega)) (by have := (atI_len k).2; omega)
    generalize insRows (atI k) = R at *
    generalize strRows (linesI (atI k)) = S at *
    generalize insRows beginI = B at *
    generalize strRows (linesI beginI) = T at *
    simp -implicitDefEqProofs +contextual (disch := omega) [law25_EmitSlots.spec, law25_EmitSlots, h1, h2, h3, h4, h5, h6, lives25]
  · rw [if_neg h] at h1
    have h2 := rSlot_no n h hI
    have h6 := rSame_eq25 [] UsedL.nil (by decide)
    rw [show insRows [] = [] from rfl] at h1
    rw [show insRows [] = [] from rfl, show strRows (linesI []) = [] from rfl] at h6
    generalize insRows beginI = B at *
    generalize strRows (linesI beginI) = T at *
    simp -implicitDefEqProofs +contextual (disch := omega) [law25_EmitSlots.spec, law25_EmitSlots, h1, h2, h3, h4, h5, h6, lives25]
theorem law25_EmitSlots_law (args : List AV) (h : ArgsSh [(false, [.int .i64])] args) : law25_EmitSlots.spec args = some (.bool true) := by
  obtain ⟨a, _, rfl, h1, h⟩ := args_one h
  obtain rfl := args_nil h
  obtain ⟨n, rfl, hn⟩ := sh_i64 h1.1
  exact emitSlots_law n hn
end Go.Abs
