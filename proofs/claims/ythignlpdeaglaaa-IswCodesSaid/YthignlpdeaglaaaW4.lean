/-
  Words, turned bit by bit.
-/
import Derived.Test.YthignlpdeaglaaaW3
import Derived.Test.YthignlpdeaglaaaS1
set_option linter.unusedSimpArgs false
set_option linter.unusedVariables false
namespace Go.Abs
noncomputable abbrev rrotL := ref01_Rot.l0 ref01_Bits.spec ref01_Word.spec
theorem turn_bits (v : BitVec 32) : [[AV.bool (atb (bitsL v) 31)]] ++ (bls (bitsL v)).take 31 = bls (bitsL (v.rotateLeft 1)) := by
  have e : bitsL (v.rotateLeft 1) = atb (bitsL v) 31 :: (bitsL v).take 31 := by
    apply List.ext_getElem?
    intro j
    cases j with
    | zero =>
      simp [bitsL, tell, atb, BitVec.getLsbD_rotateLeft]
    | succ j =>
      rw [List.getElem?_cons_succ, List.getElem?_take]
      by_cases h : j < 31
      · rw [if_pos h]
        have h1 : j + 1 < 32 := by omega
        have h2 : j < 32 := by omega
        simp [bitsL, tell, h1, h2, BitVec.getLsbD_rotateLeft]
      · rw [if_neg h, List.getElem?_eq_none (by simp [bitsL]; omega)]
  rw [e]; simp [bls, List.map_take]
theorem rot_one (v : BitVec 32) (i : Nat) (hi : i < 31) : (v.rotateLeft i).rotateLeft 1 = v.rotateLeft (i + 1) := by
  apply BitVec.eq_of_getLsbD_eq
  intro j hj
  simp only [BitVec.getLsbD_rotateLeft, Nat.reduceMod, Nat.mod_eq_of_lt (show i < 32 by omega), Nat.mod_eq_of_lt (show i + 1 < 32 by omega)]
  by_cases h0 : j < 1
  · have : j = 0 := by omega
    subst this
    have q : ¬ 31 < i := by omega
    simp [q]
  · by_cases h1 : j - 1 < i
    · have q : j < i + 1 := by omega
      have q2 : 31 - i + j = 32 - i + (j - 1) := by omega
      simp [h0, h1, q, q2, hj]
    · have q : ¬ j < i + 1 := by omega
      have q2 : j - (i + 1) = j - 1 - i := by omega
      have q3 : j - 1 < 32 := by omega
      simp [h0, h1, q, q2, q3, hj]
theorem rot_step (v n : BitVec 32) (i : Nat) (hi : i < n.toNat % 32) (H : AHeap) (hw : H.WF) (b : AV) (hb : BitsAt H b v) (x : List (Nat × AV)) : ∃ y H' b',
    rrotL (AFr.al ([(1, W32 n), (5, b), (6, W32 (BitVec.ofNat 32 i))] ++ x)) H = some (.normal, AFr.al ([(1, W32 n), (5, b'), (6, W32 (BitVec.ofNat 32 (i + 1)))] ++ y), H') ∧ H'.WF ∧ BitsAt H' b' (v.rotateLeft 1) := by
  have hlt : BitVec.ofNat 32 i < n % 32#32 := by
    rw [BitVec.lt_def, BitVec.toNat_umod, BitVec.toNat_ofNat]; simp; omega
  have h1 : BitVec.ofNat 32 i + 1#32 = BitVec.ofNat 32 (i + 1) := by
    apply BitVec.eq_of_toNat_eq; simp
  have ht := turn_bits v
  simp only [bitsL, List.singleton_append] at ht
  rcases hb with rfl | ⟨o, rfl, ho⟩
  · refine ⟨?_, ?_, ?_, ?_, ?_, ?_⟩
    rotate_left 3
    · simp -implicitDefEqProofs +contextual (disch := try first | omega | assumption) [ref01_Rot.l0, hlt, h1, bitsL, tell_length]
      constructor <;> rfl
    · (repeat' (first | assumption | with_reducible apply AHeap.WF.push | with_reducible apply AHeap.WF.set)) <;> (simp <;> omega)
    · right; simp (disch := omega) [bBlk, bitsL, tell_length]; exact ht
  · have hbo := hw _ _ ho
    simp only [bBlk] at ho
    refine ⟨?_, ?_, ?_, ?_, ?_, ?_⟩
    rotate_left 3
    · simp -implicitDefEqProofs +contextual (disch := try first | omega | assumption) [ref01_Rot.l0, hlt, h1, bitsL, tell_length, ho]
      constructor <;> rfl
    · (repeat' (first | assumption | with_reducible apply AHeap.WF.push | with_reducible apply AHeap.WF.set)) <;> (simp <;> omega)
    · right; simp (disch := omega) [bBlk, bitsL, tell_length]; exact ht
theorem rrot_loop (a n : BitVec 32) : ∀ (d i : Nat) (H : AHeap) (b : AV) (x : List (Nat × AV)), i + d = n.toNat % 32 → H.WF → BitsAt H b (a.rotateLeft i) →
    ∃ fr' H' b', aloop rrotL (AFr.al ([(1, W32 n), (5, b), (6, W32 (BitVec.ofNat 32 i))] ++ x)) H = some (.exit 0, fr', H') ∧ fr' 5 = b' ∧ BitsAt H' b' (a.rotateLeft (n.toNat % 32)) := by
  intro d
  induction d with
  | zero =>
    intro i H b x h hw hb
    obtain rfl : i = n.toNat % 32 := by omega
    have hlt : ¬ BitVec.ofNat 32 (n.toNat % 32) < n % 32#32 := by
      rw [BitVec.lt_def, BitVec.toNat_umod, BitVec.toNat_ofNat]; simp; omega
    refine ⟨_, H, b, aloop_exit (by simp) (by simp -implicitDefEqProofs +contextual (disch := omega) [ref01_Rot.l0, hlt]; rfl), ?_, hb⟩
    simp
  | succ d ih =>
    intro i H b x h hw hb
    obtain ⟨y, H1, b1, s1, s2, s3⟩ := rot_step (a.rotateLeft i) n i (by omega) H hw b hb x
    rw [rot_one a i (by omega)] at s3
    obtain ⟨fr', H', b', p1, p2⟩ := ih (i + 1) H1 b1 y (by omega) s2 s3
    exact ⟨fr', H', b', (aloop_step s1).trans p1, p2⟩
theorem rRot_eq (a n : BitVec 32) : ref01_Rot.spec [W32 a, W32 n] = some (W32 (a.rotateLeft (n.toNat % 32))) := by
  have hB := Bits_eq a
  generalize hwd : a.rotateLeft (n.toNat % 32) = w
  have hW := Word_eq' w
  have h0 : a.rotateLeft 0 = a := by
    apply BitVec.eq_of_getLsbD_eq; intro j hj; simp [BitVec.getLsbD_rotateLeft, hj]
  simp -implicitDefEqProofs +contextual (disch := omega) [ref01_Rot.spec, ref01_Rot, hB]
  generalize hr : aloop _ _ _ = r
  obtain ⟨fr', H', b', p1, p2, p3⟩ := rrot_loop a n (n.toNat % 32) 0 AHeap.empty (.rsl 1 (bls (bitsL a))) [] (by omega) AHeap.WF.empty (.inl (by rw [h0]))
  have hr2 := hr.symm.trans p1
  subst hr2
  rw [hwd] at p3
  rcases p3 with rfl | ⟨o, rfl, ho⟩
  · simp -implicitDefEqProofs +contextual (disch := omega) [p2, hW]
  · simp only [bBlk] at ho
    have hl : (bitsL w).length = 32 := by simp [bitsL]
    have ht : (bls (bitsL w)).take 32 = bls (bitsL w) := List.take_of_length_le (by rw [bls_length, hl]; omega)
    simp -implicitDefEqProofs +contextual (disch := omega) [p2, ho, hl, ht, hW]
end Go.Abs
