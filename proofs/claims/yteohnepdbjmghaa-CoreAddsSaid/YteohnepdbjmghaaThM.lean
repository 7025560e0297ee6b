section
set_option linter.unusedSimpArgs false
set_option linter.unusedVariables false
namespace Go.Abs.Th
structure InsM where
  op : Int
  d : Int
  n : Int
  m : Int
  imm : Int
deriving DecidableEq
def InsM.zero : InsM := ⟨0, 0, 0, 0, 0⟩
structure Part where
  of : Nat
  at_ : Nat
  wide : Nat
structure Shp where
  bits : Nat
  parts : List Part
  low : Int
  high : Int
def shp : Nat → Shp
  | 0 => ⟨0x2000, [⟨0, 8, 3⟩, ⟨3, 0, 8⟩], 0, 255⟩
  | 1 => ⟨0x2800, [⟨0, 8, 3⟩, ⟨3, 0, 8⟩], 0, 255⟩
  | 2 => ⟨0x3000, [⟨0, 8, 3⟩, ⟨3, 0, 8⟩], 0, 255⟩
  | 3 => ⟨0x3800, [⟨0, 8, 3⟩, ⟨3, 0, 8⟩], 0, 255⟩
  | 4 => ⟨0x0000, [⟨3, 6, 5⟩, ⟨2, 3, 3⟩, ⟨0, 0, 3⟩], 0, 31⟩
  | 5 => ⟨0x0800, [⟨3, 6, 5⟩, ⟨2, 3, 3⟩, ⟨0, 0, 3⟩], 1, 32⟩
  | 6 => ⟨0x1000, [⟨3, 6, 5⟩, ⟨2, 3, 3⟩, ⟨0, 0, 3⟩], 1, 32⟩
  | 7 => ⟨0x1800, [⟨2, 6, 3⟩, ⟨1, 3, 3⟩, ⟨0, 0, 3⟩], 0, 0⟩
  | 8 => ⟨0x1a00, [⟨2, 6, 3⟩, ⟨1, 3, 3⟩, ⟨0, 0, 3⟩], 0, 0⟩
  | 9 => ⟨0x1c00, [⟨3, 6, 3⟩, ⟨1, 3, 3⟩, ⟨0, 0, 3⟩], 0, 7⟩
  | 10 => ⟨0x1e00, [⟨3, 6, 3⟩, ⟨1, 3, 3⟩, ⟨0, 0, 3⟩], 0, 7⟩
  | 11 => ⟨0x4000, [⟨3, 6, 4⟩, ⟨2, 3, 3⟩, ⟨0, 0, 3⟩], 0, 15⟩
  | 12 => ⟨0x6800, [⟨3, 6, 5⟩, ⟨1, 3, 3⟩, ⟨0, 0, 3⟩], 0, 31⟩
  | 13 => ⟨0x6000, [⟨3, 6, 5⟩, ⟨1, 3, 3⟩, ⟨0, 0, 3⟩], 0, 31⟩
  | 14 => ⟨0x5800, [⟨2, 6, 3⟩, ⟨1, 3, 3⟩, ⟨0, 0, 3⟩], 0, 0⟩
  | 15 => ⟨0x5000, [⟨2, 6, 3⟩, ⟨1, 3, 3⟩, ⟨0, 0, 3⟩], 0, 0⟩
  | 16 => ⟨0x4800, [⟨0, 8, 3⟩, ⟨3, 0, 8⟩], 0, 255⟩
  | 17 => ⟨0xe000, [⟨3, 0, 11⟩], -1024, 1023⟩
  | 18 => ⟨0xd000, [⟨4, 8, 4⟩, ⟨3, 0, 8⟩], -128, 127⟩
  | 19 => ⟨0xbf00, [], 0, 0⟩
  | _ => ⟨0xbe00, [⟨3, 0, 8⟩], 0, 255⟩
def free (op : Nat) : Nat := ((shp op).parts.map Part.wide).sum
def InsM.get (i : InsM) : Nat → Int
  | 0 => i.d
  | 1 => i.n
  | 2 => i.m
  | 3 => i.imm
  | _ => i.d
def InsM.put (i : InsM) (x : Int) : Nat → InsM
  | 0 => { i with d := x }
  | 1 => { i with n := x }
  | 2 => { i with m := x }
  | 3 => { i with imm := x }
  | _ => { i with d := x }
def hasD : Nat → Bool
  | 17 | 18 | 19 | 20 => false
  | _ => true
def hasN : Nat → Bool
  | 7 | 8 | 9 | 10 | 12 | 13 | 14 | 15 => true
  | _ => false
def hasM : Nat → Bool
  | 4 | 5 | 6 | 7 | 8 | 11 | 14 | 15 => true
  | _ => false
def maxD (op : Nat) : Int := if op = 18 then 13 else if hasD op then 7 else 0
def maxN (op : Nat) : Int := if hasN op then 7 else 0
def maxM (op : Nat) : Int := if hasM op then 7 else 0
def InsM.can (i : InsM) : Bool :=
  decide (0 ≤ i.op) && decide (i.op ≤ 20) && (decide ((shp i.op.toNat).low ≤ i.imm) && decide (i.imm ≤ (shp i.op.toNat).high) && decide (0 ≤ i.d) && decide (i.d ≤ maxD i.op.toNat) &&
    decide (0 ≤ i.n) && decide (i.n ≤ maxN i.op.toNat) && decide (0 ≤ i.m) && decide (i.m ≤ maxM i.op.toNat))
def putGo (i : InsM) : List Part → Nat → Nat
  | [], h => h
  | p :: ps, h => putGo i ps (h + (i.get p.of % 2 ^ p.wide).toNat * 2 ^ p.at_)
def putN (i : InsM) : Nat := putGo i (shp i.op.toNat).parts (shp i.op.toNat).bits
def candGo (s : Shp) (h : Nat) : List Part → InsM → InsM
  | [], i => i
  | p :: ps, i => candGo s h ps (i.put (
      let x : Int := (h / 2 ^ p.at_ % 2 ^ p.wide : Nat)
      if p.of = 3 ∧ s.low < 0 ∧ x > s.high then x - 2 ^ p.wide else if p.of = 3 ∧ s.low = 1 ∧ x = 0 then s.high else x) p.of)
def candN (op h : Nat) : InsM := candGo (shp op) h (shp op).parts ⟨op, 0, 0, 0, 0⟩
def isN (op h : Nat) : Bool := (candN op h).can && putN (candN op h) == h
def takeGo (h : Nat) : Nat → Nat → InsM × Int
  | 0, _ => (InsM.zero, 20)
  | k + 1, op => if isN op h then (candN op h, 0) else takeGo h k (op + 1)
def takeN (h : Nat) : InsM × Int := takeGo h 21 0
structure PutS where
  h : Nat
  d : Nat
  n : Nat
  m : Nat
  imm : Nat
structure TakeS where
  x : Nat
  ok : Bool
  wide : Nat
  d : Nat
  n : Nat
  m : Nat
  imm : Nat
theorem ops {P : Nat → Prop} (h : ∀ op : Nat, op ≤ 20 → P op) (op : Int) (h0 : 0 ≤ op) (h1 : op ≤ 20) : P op.toNat := h _ (by omega)
theorem cases21 {P : Nat → Prop} (op : Nat) (h : op ≤ 20) (h0 : P 0) (h1 : P 1) (h2 : P 2) (h3 : P 3) (h4 : P 4) (h5 : P 5) (h6 : P 6) (h7 : P 7) (h8 : P 8) (h9 : P 9) (h10 : P 10) (h11 : P 11) (h12 : P 12) (h13 : P 13) (h14 : P 14) (h15 : P 15) (h16 : P 16)
    (h17 : P 17) (h18 : P 18) (h19 : P 19) (h20 : P 20) : P op := by
  match op, h with
  | 0, _ => exact h0 | 1, _ => exact h1 | 2, _ => exact h2 | 3, _ => exact h3 | 4, _ => exact h4 | 5, _ => exact h5 | 6, _ => exact h6 | 7, _ => exact h7 | 8, _ => exact h8 | 9, _ => exact h9 | 10, _ => exact h10
  | 11, _ => exact h11 | 12, _ => exact h12 | 13, _ => exact h13 | 14, _ => exact h14 | 15, _ => exact h15 | 16, _ => exact h16 | 17, _ => exact h17 | 18, _ => exact h18 | 19, _ => exact h19 | 20, _ => exact h20
  | n + 21, h => omega
theorem cn0 (h : Nat) : candN 0 h = ⟨0, ((h / 256 % 8 : Nat) : Int), (0 : Int), (0 : Int), ((h / 1 % 256 : Nat) : Int)⟩ := by
  unfold candN candGo; simp [candGo, InsM.put, shp]
theorem cn1 (h : Nat) : candN 1 h = ⟨1, ((h / 256 % 8 : Nat) : Int), (0 : Int), (0 : Int), ((h / 1 % 256 : Nat) : Int)⟩ := by
  unfold candN candGo; simp [candGo, InsM.put, shp]
theorem cn2 (h : Nat) : candN 2 h = ⟨2, ((h / 256 % 8 : Nat) : Int), (0 : Int), (0 : Int), ((h / 1 % 256 : Nat) : Int)⟩ := by
  unfold candN candGo; simp [candGo, InsM.put, shp]
theorem cn3 (h : Nat) : candN 3 h = ⟨3, ((h / 256 % 8 : Nat) : Int), (0 : Int), (0 : Int), ((h / 1 % 256 : Nat) : Int)⟩ := by
  unfold candN candGo; simp [candGo, InsM.put, shp]
theorem cn4 (h : Nat) : candN 4 h = ⟨4, ((h / 1 % 8 : Nat) : Int), (0 : Int), ((h / 8 % 8 : Nat) : Int), ((h / 64 % 32 : Nat) : Int)⟩ := by
  unfold candN candGo; simp [candGo, InsM.put, shp]
theorem cn5 (h : Nat) : candN 5 h = ⟨5, ((h / 1 % 8 : Nat) : Int), (0 : Int), ((h / 8 % 8 : Nat) : Int), (if ((h / 64 % 32 : Nat) : Int) = 0 then 32 else ((h / 64 % 32 : Nat) : Int))⟩ := by
  unfold candN candGo; simp [candGo, InsM.put, shp]
theorem cn6 (h : Nat) : candN 6 h = ⟨6, ((h / 1 % 8 : Nat) : Int), (0 : Int), ((h / 8 % 8 : Nat) : Int), (if ((h / 64 % 32 : Nat) : Int) = 0 then 32 else ((h / 64 % 32 : Nat) : Int))⟩ := by
  unfold candN candGo; simp [candGo, InsM.put, shp]
theorem cn7 (h : Nat) : candN 7 h = ⟨7, ((h / 1 % 8 : Nat) : Int), ((h / 8 % 8 : Nat) : Int), ((h / 64 % 8 : Nat) : Int), (0 : Int)⟩ := by
  unfold candN candGo; simp [candGo, InsM.put, shp]
theorem cn8 (h : Nat) : candN 8 h = ⟨8, ((h / 1 % 8 : Nat) : Int), ((h / 8 % 8 : Nat) : Int), ((h / 64 % 8 : Nat) : Int), (0 : Int)⟩ := by
  unfold candN candGo; simp [candGo, InsM.put, shp]
theorem cn9 (h : Nat) : candN 9 h = ⟨9, ((h / 1 % 8 : Nat) : Int), ((h / 8 % 8 : Nat) : Int), (0 : Int), ((h / 64 % 8 : Nat) : Int)⟩ := by
  unfold candN candGo; simp [candGo, InsM.put, shp]
theorem cn10 (h : Nat) : candN 10 h = ⟨10, ((h / 1 % 8 : Nat) : Int), ((h / 8 % 8 : Nat) : Int), (0 : Int), ((h / 64 % 8 : Nat) : Int)⟩ := by
  unfold candN candGo; simp [candGo, InsM.put, shp]
theorem cn11 (h : Nat) : candN 11 h = ⟨11, ((h / 1 % 8 : Nat) : Int), (0 : Int), ((h / 8 % 8 : Nat) : Int), ((h / 64 % 16 : Nat) : Int)⟩ := by
  unfold candN candGo; simp [candGo, InsM.put, shp]
theorem cn12 (h : Nat) : candN 12 h = ⟨12, ((h / 1 % 8 : Nat) : Int), ((h / 8 % 8 : Nat) : Int), (0 : Int), ((h / 64 % 32 : Nat) : Int)⟩ := by
  unfold candN candGo; simp [candGo, InsM.put, shp]
theorem cn13 (h : Nat) : candN 13 h = ⟨13, ((h / 1 % 8 : Nat) : Int), ((h / 8 % 8 : Nat) : Int), (0 : Int), ((h / 64 % 32 : Nat) : Int)⟩ := by
  unfold candN candGo; simp [candGo, InsM.put, shp]
theorem cn14 (h : Nat) : candN 14 h = ⟨14, ((h / 1 % 8 : Nat) : Int), ((h / 8 % 8 : Nat) : Int), ((h / 64 % 8 : Nat) : Int), (0 : Int)⟩ := by
  unfold candN candGo; simp [candGo, InsM.put, shp]
theorem cn15 (h : Nat) : candN 15 h = ⟨15, ((h / 1 % 8 : Nat) : Int), ((h / 8 % 8 : Nat) : Int), ((h / 64 % 8 : Nat) : Int), (0 : Int)⟩ := by
  unfold candN candGo; simp [candGo, InsM.put, shp]
theorem cn16 (h : Nat) : candN 16 h = ⟨16, ((h / 256 % 8 : Nat) : Int), (0 : Int), (0 : Int), ((h / 1 % 256 : Nat) : Int)⟩ := by
  unfold candN candGo; simp [candGo, InsM.put, shp]
theorem cn17 (h : Nat) : candN 17 h = ⟨17, (0 : Int), (0 : Int), (0 : Int), (if ((h / 1 % 2048 : Nat) : Int) > 1023 then ((h / 1 % 2048 : Nat) : Int) - 2048 else ((h / 1 % 2048 : Nat) : Int))⟩ := by
  unfold candN candGo; simp [candGo, InsM.put, shp]
theorem cn18 (h : Nat) : candN 18 h = ⟨18, ((h / 256 % 16 : Nat) : Int), (0 : Int), (0 : Int), (if ((h / 1 % 256 : Nat) : Int) > 127 then ((h / 1 % 256 : Nat) : Int) - 256 else ((h / 1 % 256 : Nat) : Int))⟩ := by
  unfold candN candGo; simp [candGo, InsM.put, shp]
theorem cn19 (h : Nat) : candN 19 h = ⟨19, (0 : Int), (0 : Int), (0 : Int), (0 : Int)⟩ := by
  unfold candN candGo; simp [candGo, InsM.put, shp]
theorem cn20 (h : Nat) : candN 20 h = ⟨20, (0 : Int), (0 : Int), (0 : Int), ((h / 1 % 256 : Nat) : Int)⟩ := by
  unfold candN candGo; simp [candGo, InsM.put, shp]
end Go.Abs.Th
end
section
set_option linter.unusedSimpArgs false
set_option linter.unusedVariables false
namespace Go.Abs.Th
theorem can_iff (i : InsM) : i.can = true ↔ (0 ≤ i.op ∧ i.op ≤ 20) ∧ (shp i.op.toNat).low ≤ i.imm ∧ i.imm ≤ (shp i.op.toNat).high ∧ 0 ≤ i.d ∧ i.d ≤ maxD i.op.toNat ∧ 0 ≤ i.n ∧ i.n ≤ maxN i.op.toNat ∧ 0 ≤ i.m ∧ i.m ≤ maxM i.op.toNat := by
  simp [InsM.can, and_assoc]
theorem can_op (k : Nat) (hk : k ≤ 20) (d n m imm : Int) : (InsM.mk k d n m imm).can = true ↔ (shp k).low ≤ imm ∧ imm ≤ (shp k).high ∧ 0 ≤ d ∧ d ≤ maxD k ∧ 0 ≤ n ∧ n ≤ maxN k ∧ 0 ≤ m ∧ m ≤ maxM k := by
  rw [can_iff]; simp only [Int.toNat_natCast]
  constructor
  · intro h; exact h.2
  · intro h; exact ⟨⟨by omega, by omega⟩, h⟩
set_option maxHeartbeats 1000000 in
theorem back0 (h : Nat) (hh : h / 2 ^ free 0 = (shp 0).bits / 2 ^ free 0) (hc : (candN 0 h).can = true) : putN (candN 0 h) = h := by
  rw [cn0] at hc ⊢
  rw [show ∀ a b c d : Int, (InsM.mk 0 a b c d).can = true ↔ _ from fun a b c d => can_op 0 (by omega) a b c d] at hc
  simp [shp, maxD, maxN, maxM, hasD, hasN, hasM] at hc
  simp [free, shp] at hh
  simp [putN, putGo, shp, InsM.get]
  try omega
set_option maxHeartbeats 1000000 in
theorem forth0 (d n m imm : Int) (hc : (InsM.mk 0 d n m imm).can = true) : putN ⟨0, d, n, m, imm⟩ / 2 ^ free 0 = (shp 0).bits / 2 ^ free 0 ∧ candN 0 (putN ⟨0, d, n, m, imm⟩) = ⟨0, d, n, m, imm⟩ ∧ putN ⟨0, d, n, m, imm⟩ < 65536 := by
  rw [show ∀ a b c d : Int, (InsM.mk 0 a b c d).can = true ↔ _ from fun a b c d => can_op 0 (by omega) a b c d] at hc
  simp [shp, maxD, maxN, maxM, hasD, hasN, hasM] at hc
  rw [cn0]
  simp [putN, putGo, shp, InsM.get, free]
  try omega
set_option maxHeartbeats 1000000 in
theorem back1 (h : Nat) (hh : h / 2 ^ free 1 = (shp 1).bits / 2 ^ free 1) (hc : (candN 1 h).can = true) : putN (candN 1 h) = h := by
  rw [cn1] at hc ⊢
  rw [show ∀ a b c d : Int, (InsM.mk 1 a b c d).can = true ↔ _ from fun a b c d => can_op 1 (by omega) a b c d] at hc
  simp [shp, maxD, maxN, maxM, hasD, hasN, hasM] at hc
  simp [free, shp] at hh
  simp [putN, putGo, shp, InsM.get]
  try omega
set_option maxHeartbeats 1000000 in
theorem forth1 (d n m imm : Int) (hc : (InsM.mk 1 d n m imm).can = true) : putN ⟨1, d, n, m, imm⟩ / 2 ^ free 1 = (shp 1).bits / 2 ^ free 1 ∧ candN 1 (putN ⟨1, d, n, m, imm⟩) = ⟨1, d, n, m, imm⟩ ∧ putN ⟨1, d, n, m, imm⟩ < 65536 := by
  rw [show ∀ a b c d : Int, (InsM.mk 1 a b c d).can = true ↔ _ from fun a b c d => can_op 1 (by omega) a b c d] at hc
  simp [shp, maxD, maxN, maxM, hasD, hasN, hasM] at hc
  rw [cn1]
  simp [putN, putGo, shp, InsM.get, free]
  try omega
set_option maxHeartbeats 1000000 in
theorem back2 (h : Nat) (hh : h / 2 ^ free 2 = (shp 2).bits / 2 ^ free 2) (hc : (candN 2 h).can = true) : putN (candN 2 h) = h := by
  rw [cn2] at hc ⊢
  rw [show ∀ a b c d : Int, (InsM.mk 2 a b c d).can = true ↔ _ from fun a b c d => can_op 2 (by omega) a b c d] at hc
  simp [shp, maxD, maxN, maxM, hasD, hasN, hasM] at hc
  simp [free, shp] at hh
  simp [putN, putGo, shp, InsM.get]
  try omega
set_option maxHeartbeats 1000000 in
theorem forth2 (d n m imm : Int) (hc : (InsM.mk 2 d n m imm).can = true) : putN ⟨2, d, n, m, imm⟩ / 2 ^ free 2 = (shp 2).bits / 2 ^ free 2 ∧ candN 2 (putN ⟨2, d, n, m, imm⟩) = ⟨2, d, n, m, imm⟩ ∧ putN ⟨2, d, n, m, imm⟩ < 65536 := by
  rw [show ∀ a b c d : Int, (InsM.mk 2 a b c d).can = true ↔ _ from fun a b c d => can_op 2 (by omega) a b c d] at hc
  simp [shp, maxD, maxN, maxM, hasD, hasN, hasM] at hc
  rw [cn2]
  simp [putN, putGo, shp, InsM.get, free]
  try omega
set_option maxHeartbeats 1000000 in
theorem back3 (h : Nat) (hh : h / 2 ^ free 3 = (shp 3).bits / 2 ^ free 3) (hc : (candN 3 h).can = true) : putN (candN 3 h) = h := by
  rw [cn3] at hc ⊢
  rw [show ∀ a b c d : Int, (InsM.mk 3 a b c d).can = true ↔ _ from fun a b c d => can_op 3 (by omega) a b c d] at hc
  simp [shp, maxD, maxN, maxM, hasD, hasN, hasM] at hc
  simp [free, shp] at hh
  simp [putN, putGo, shp, InsM.get]
  try omega
set_option maxHeartbeats 1000000 in
theorem forth3 (d n m imm : Int) (hc : (InsM.mk 3 d n m imm).can = true) : putN ⟨3, d, n, m, imm⟩ / 2 ^ free 3 = (shp 3).bits / 2 ^ free 3 ∧ candN 3 (putN ⟨3, d, n, m, imm⟩) = ⟨3, d, n, m, imm⟩ ∧ putN ⟨3, d, n, m, imm⟩ < 65536 := by
  rw [show ∀ a b c d : Int, (InsM.mk 3 a b c d).can = true ↔ _ from fun a b c d => can_op 3 (by omega) a b c d] at hc
  simp [shp, maxD, maxN, maxM, hasD, hasN, hasM] at hc
  rw [cn3]
  simp [putN, putGo, shp, InsM.get, free]
  try omega
set_option maxHeartbeats 1000000 in
theorem back4 (h : Nat) (hh : h / 2 ^ free 4 = (shp 4).bits / 2 ^ free 4) (hc : (candN 4 h).can = true) : putN (candN 4 h) = h := by
  rw [cn4] at hc ⊢
  rw [show ∀ a b c d : Int, (InsM.mk 4 a b c d).can = true ↔ _ from fun a b c d => can_op 4 (by omega) a b c d] at hc
  simp [shp, maxD, maxN, maxM, hasD, hasN, hasM] at hc
  simp [free, shp] at hh
  simp [putN, putGo, shp, InsM.get]
  try omega
set_option maxHeartbeats 1000000 in
theorem forth4 (d n m imm : Int) (hc : (InsM.mk 4 d n m imm).can = true) : putN ⟨4, d, n, m, imm⟩ / 2 ^ free 4 = (shp 4).bits / 2 ^ free 4 ∧ candN 4 (putN ⟨4, d, n, m, imm⟩) = ⟨4, d, n, m, imm⟩ ∧ putN ⟨4, d, n, m, imm⟩ < 65536 := by
  rw [show ∀ a b c d : Int, (InsM.mk 4 a b c d).can = true ↔ _ from fun a b c d => can_op 4 (by omega) a b c d] at hc
  simp [shp, maxD, maxN, maxM, hasD, hasN, hasM] at hc
  rw [cn4]
  simp [putN, putGo, shp, InsM.get, free]
  try omega
set_option maxHeartbeats 1000000 in
theorem back5 (h : Nat) (hh : h / 2 ^ free 5 = (shp 5).bits / 2 ^ free 5) (hc : (candN 5 h).can = true) : putN (candN 5 h) = h := by
  rw [cn5] at hc ⊢
  rw [show ∀ a b c d : Int, (InsM.mk 5 a b c d).can = true ↔ _ from fun a b c d => can_op 5 (by omega) a b c d] at hc
  simp [shp, maxD, maxN, maxM, hasD, hasN, hasM] at hc
  simp [free, shp] at hh
  simp [putN, putGo, shp, InsM.get]
  try omega
set_option maxHeartbeats 1000000 in
theorem forth5 (d n m imm : Int) (hc : (InsM.mk 5 d n m imm).can = true) : putN ⟨5, d, n, m, imm⟩ / 2 ^ free 5 = (shp 5).bits / 2 ^ free 5 ∧ candN 5 (putN ⟨5, d, n, m, imm⟩) = ⟨5, d, n, m, imm⟩ ∧ putN ⟨5, d, n, m, imm⟩ < 65536 := by
  rw [show ∀ a b c d : Int, (InsM.mk 5 a b c d).can = true ↔ _ from fun a b c d => can_op 5 (by omega) a b c d] at hc
  simp [shp, maxD, maxN, maxM, hasD, hasN, hasM] at hc
  rw [cn5]
  simp [putN, putGo, shp, InsM.get, free]
  try omega
set_option maxHeartbeats 1000000 in
theorem back6 (h : Nat) (hh : h / 2 ^ free 6 = (shp 6).bits / 2 ^ free 6) (hc : (candN 6 h).can = true) : putN (candN 6 h) = h := by
  rw [cn6] at hc ⊢
  rw [show ∀ a b c d : Int, (InsM.mk 6 a b c d).can = true ↔ _ from fun a b c d => can_op 6 (by omega) a b c d] at hc
  simp [shp, maxD, maxN, maxM, hasD, hasN, hasM] at hc
  simp [free, shp] at hh
  simp [putN, putGo, shp, InsM.get]
  try omega
set_option maxHeartbeats 1000000 in
theorem forth6 (d n m imm : Int) (hc : (InsM.mk 6 d n m imm).can = true) : putN ⟨6, d, n, m, imm⟩ / 2 ^ free 6 = (shp 6).bits / 2 ^ free 6 ∧ candN 6 (putN ⟨6, d, n, m, imm⟩) = ⟨6, d, n, m, imm⟩ ∧ putN ⟨6, d, n, m, imm⟩ < 65536 := by
  rw [show ∀ a b c d : Int, (InsM.mk 6 a b c d).can = true ↔ _ from fun a b c d => can_op 6 (by omega) a b c d] at hc
  simp [shp, maxD, maxN, maxM, hasD, hasN, hasM] at hc
  rw [cn6]
  simp [putN, putGo, shp, InsM.get, free]
  try omega
set_option maxHeartbeats 1000000 in
theorem back7 (h : Nat) (hh : h / 2 ^ free 7 = (shp 7).bits / 2 ^ free 7) (hc : (candN 7 h).can = true) : putN (candN 7 h) = h := by
  rw [cn7] at hc ⊢
  rw [show ∀ a b c d : Int, (InsM.mk 7 a b c d).can = true ↔ _ from fun a b c d => can_op 7 (by omega) a b c d] at hc
  simp [shp, maxD, maxN, maxM, hasD, hasN, hasM] at hc
  simp [free, shp] at hh
  simp [putN, putGo, shp, InsM.get]
  try omega
set_option maxHeartbeats 1000000 in
theorem forth7 (d n m imm : Int) (hc : (InsM.mk 7 d n m imm).can = true) : putN ⟨7, d, n, m, imm⟩ / 2 ^ free 7 = (shp 7).bits / 2 ^ free 7 ∧ candN 7 (putN ⟨7, d, n, m, imm⟩) = ⟨7, d, n, m, imm⟩ ∧ putN ⟨7, d, n, m, imm⟩ < 65536 := by
  rw [show ∀ a b c d : Int, (InsM.mk 7 a b c d).can = true ↔ _ from fun a b c d => can_op 7 (by omega) a b c d] at hc
  simp [shp, maxD, maxN, maxM, hasD, hasN, hasM] at hc
  rw [cn7]
  simp [putN, putGo, shp, InsM.get, free]
  try omega
set_option maxHeartbeats 1000000 in
theorem back8 (h : Nat) (hh : h / 2 ^ free 8 = (shp 8).bits / 2 ^ free 8) (hc : (candN 8 h).can = true) : putN (candN 8 h) = h := by
  rw [cn8] at hc ⊢
  rw [show ∀ a b c d : Int, (InsM.mk 8 a b c d).can = true ↔ _ from fun a b c d => can_op 8 (by omega) a b c d] at hc
  simp [shp, maxD, maxN, maxM, hasD, hasN, hasM] at hc
  simp [free, shp] at hh
  simp [putN, putGo, shp, InsM.get]
  try omega
set_option maxHeartbeats 1000000 in
theorem forth8 (d n m imm : Int) (hc : (InsM.mk 8 d n m imm).can = true) : putN ⟨8, d, n, m, imm⟩ / 2 ^ free 8 = (shp 8).bits / 2 ^ free 8 ∧ candN 8 (putN ⟨8, d, n, m, imm⟩) = ⟨8, d, n, m, imm⟩ ∧ putN ⟨8, d, n, m, imm⟩ < 65536 := by
  rw [show ∀ a b c d : Int, (InsM.mk 8 a b c d).can = true ↔ _ from fun a b c d => can_op 8 (by omega) a b c d] at hc
  simp [shp, maxD, maxN, maxM, hasD, hasN, hasM] at hc
  rw [cn8]
  simp [putN, putGo, shp, InsM.get, free]
  try omega
set_option maxHeartbeats 1000000 in
theorem back9 (h : Nat) (hh : h / 2 ^ free 9 = (shp 9).bits / 2 ^ free 9) (hc : (candN 9 h).can = true) : putN (candN 9 h) = h := by
  rw [cn9] at hc ⊢
  rw [show ∀ a b c d : Int, (InsM.mk 9 a b c d).can = true ↔ _ from fun a b c d => can_op 9 (by omega) a b c d] at hc
  simp [shp, maxD, maxN, maxM, hasD, hasN, hasM] at hc
  simp [free, shp] at hh
  simp [putN, putGo, shp, InsM.get]
  try omega
set_option maxHeartbeats 1000000 in
theorem forth9 (d n m imm : Int) (hc : (InsM.mk 9 d n m imm).can = true) : putN ⟨9, d, n, m, imm⟩ / 2 ^ free 9 = (shp 9).bits / 2 ^ free 9 ∧ candN 9 (putN ⟨9, d, n, m, imm⟩) = ⟨9, d, n, m, imm⟩ ∧ putN ⟨9, d, n, m, imm⟩ < 65536 := by
  rw [show ∀ a b c d : Int, (InsM.mk 9 a b c d).can = true ↔ _ from fun a b c d => can_op 9 (by omega) a b c d] at hc
  simp [shp, maxD, maxN, maxM, hasD, hasN, hasM] at hc
  rw [cn9]
  simp [putN, putGo, shp, InsM.get, free]
  try omega
set_option maxHeartbeats 1000000 in
theorem back10 (h : Nat) (hh : h / 2 ^ free 10 = (shp 10).bits / 2 ^ free 10) (hc : (candN 10 h).can = true) : putN (candN 10 h) = h := by
  rw [cn10] at hc ⊢
  rw [show ∀ a b c d : Int, (InsM.mk 10 a b c d).can = true ↔ _ from fun a b c d => can_op 10 (by omega) a b c d] at hc
  simp [shp, maxD, maxN, maxM, hasD, hasN, hasM] at hc
  simp [free, shp] at hh
  simp [putN, putGo, shp, InsM.get]
  try omega
set_option maxHeartbeats 1000000 in
theorem forth10 (d n m imm : Int) (hc : (InsM.mk 10 d n m imm).can = true) : putN ⟨10, d, n, m, imm⟩ / 2 ^ free 10 = (shp 10).bits / 2 ^ free 10 ∧ candN 10 (putN ⟨10, d, n, m, imm⟩) = ⟨10, d, n, m, imm⟩ ∧ putN ⟨10, d, n, m, imm⟩ < 65536 := by
  rw [show ∀ a b c d : Int, (InsM.mk 10 a b c d).can = true ↔ _ from fun a b c d => can_op 10 (by omega) a b c d] at hc
  simp [shp, maxD, maxN, maxM, hasD, hasN, hasM] at hc
  rw [cn10]
  simp [putN, putGo, shp, InsM.get, free]
  try omega
set_option maxHeartbeats 1000000 in
theorem back11 (h : Nat) (hh : h / 2 ^ free 11 = (shp 11).bits / 2 ^ free 11) (hc : (candN 11 h).can = true) : putN (candN 11 h) = h := by
  rw [cn11] at hc ⊢
  rw [show ∀ a b c d : Int, (InsM.mk 11 a b c d).can = true ↔ _ from fun a b c d => can_op 11 (by omega) a b c d] at hc
  simp [shp, maxD, maxN, maxM, hasD, hasN, hasM] at hc
  simp [free, shp] at hh
  simp [putN, putGo, shp, InsM.get]
  try omega
set_option maxHeartbeats 1000000 in
theorem forth11 (d n m imm : Int) (hc : (InsM.mk 11 d n m imm).can = true) : putN ⟨11, d, n, m, imm⟩ / 2 ^ free 11 = (shp 11).bits / 2 ^ free 11 ∧ candN 11 (putN ⟨11, d, n, m, imm⟩) = ⟨11, d, n, m, imm⟩ ∧ putN ⟨11, d, n, m, imm⟩ < 65536 := by
  rw [show ∀ a b c d : Int, (InsM.mk 11 a b c d).can = true ↔ _ from fun a b c d => can_op 11 (by omega) a b c d] at hc
  simp [shp, maxD, maxN, maxM, hasD, hasN, hasM] at hc
  rw [cn11]
  simp [putN, putGo, shp, InsM.get, free]
  try omega
set_option maxHeartbeats 1000000 in
theorem back12 (h : Nat) (hh : h / 2 ^ free 12 = (shp 12).bits / 2 ^ free 12) (hc : (candN 12 h).can = true) : putN (candN 12 h) = h := by
  rw [cn12] at hc ⊢
  rw [show ∀ a b c d : Int, (InsM.mk 12 a b c d).can = true ↔ _ from fun a b c d => can_op 12 (by omega) a b c d] at hc
  simp [shp, maxD, maxN, maxM, hasD, hasN, hasM] at hc
  simp [free, shp] at hh
  simp [putN, putGo, shp, InsM.get]
  try omega
set_option maxHeartbeats 1000000 in
theorem forth12 (d n m imm : Int) (hc : (InsM.mk 12 d n m imm).can = true) : putN ⟨12, d, n, m, imm⟩ / 2 ^ free 12 = (shp 12).bits / 2 ^ free 12 ∧ candN 12 (putN ⟨12, d, n, m, imm⟩) = ⟨12, d, n, m, imm⟩ ∧ putN ⟨12, d, n, m, imm⟩ < 65536 := by
  rw [show ∀ a b c d : Int, (InsM.mk 12 a b c d).can = true ↔ _ from fun a b c d => can_op 12 (by omega) a b c d] at hc
  simp [shp, maxD, maxN, maxM, hasD, hasN, hasM] at hc
  rw [cn12]
  simp [putN, putGo, shp, InsM.get, free]
  try omega
set_option maxHeartbeats 1000000 in
theorem back13 (h : Nat) (hh : h / 2 ^ free 13 = (shp 13).bits / 2 ^ free 13) (hc : (candN 13 h).can = true) : putN (candN 13 h) = h := by
  rw [cn13] at hc ⊢
  rw [show ∀ a b c d : Int, (InsM.mk 13 a b c d).can = true ↔ _ from fun a b c d => can_op 13 (by omega) a b c d] at hc
  simp [shp, maxD, maxN, maxM, hasD, hasN, hasM] at hc
  simp [free, shp] at hh
  simp [putN, putGo, shp, InsM.get]
  try omega
set_option maxHeartbeats 1000000 in
theorem forth13 (d n m imm : Int) (hc : (InsM.mk 13 d n m imm).can = true) : putN ⟨13, d, n, m, imm⟩ / 2 ^ free 13 = (shp 13).bits / 2 ^ free 13 ∧ candN 13 (putN ⟨13, d, n, m, imm⟩) = ⟨13, d, n, m, imm⟩ ∧ putN ⟨13, d, n, m, imm⟩ < 65536 := by
  rw [show ∀ a b c d : Int, (InsM.mk 13 a b c d).can = true ↔ _ from fun a b c d => can_op 13 (by omega) a b c d] at hc
  simp [shp, maxD, maxN, maxM, hasD, hasN, hasM] at hc
  rw [cn13]
  simp [putN, putGo, shp, InsM.get, free]
  try omega
set_option maxHeartbeats 1000000 in
theorem back14 (h : Nat) (hh : h / 2 ^ free 14 = (shp 14).bits / 2 ^ free 14) (hc : (candN 14 h).can = true) : putN (candN 14 h) = h := by
  rw [cn14] at hc ⊢
  rw [show ∀ a b c d : Int, (InsM.mk 14 a b c d).can = true ↔ _ from fun a b c d => can_op 14 (by omega) a b c d] at hc
  simp [shp, maxD, maxN, maxM, hasD, hasN, hasM] at hc
  simp [free, shp] at hh
  simp [putN, putGo, shp, InsM.get]
  try omega
set_option maxHeartbeats 1000000 in
theorem forth14 (d n m imm : Int) (hc : (InsM.mk 14 d n m imm).can = true) : putN ⟨14, d, n, m, imm⟩ / 2 ^ free 14 = (shp 14).bits / 2 ^ free 14 ∧ candN 14 (putN ⟨14, d, n, m, imm⟩) = ⟨14, d, n, m, imm⟩ ∧ putN ⟨14, d, n, m, imm⟩ < 65536 := by
  rw [show ∀ a b c d : Int, (InsM.mk 14 a b c d).can = true ↔ _ from fun a b c d => can_op 14 (by omega) a b c d] at hc
  simp [shp, maxD, maxN, maxM, hasD, hasN, hasM] at hc
  rw [cn14]
  simp [putN, putGo, shp, InsM.get, free]
  try omega
set_option maxHeartbeats 1000000 in
theorem back15 (h : Nat) (hh : h / 2 ^ free 15 = (shp 15).bits / 2 ^ free 15) (hc : (candN 15 h).can = true) : putN (candN 15 h) = h := by
  rw [cn15] at hc ⊢
  rw [show ∀ a b c d : Int, (InsM.mk 15 a b c d).can = true ↔ _ from fun a b c d => can_op 15 (by omega) a b c d] at hc
  simp [shp, maxD, maxN, maxM, hasD, hasN, hasM] at hc
  simp [free, shp] at hh
  simp [putN, putGo, shp, InsM.get]
  try omega
set_option maxHeartbeats 1000000 in
theorem forth15 (d n m imm : Int) (hc : (InsM.mk 15 d n m imm).can = true) : putN ⟨15, d, n, m, imm⟩ / 2 ^ free 15 = (shp 15).bits / 2 ^ free 15 ∧ candN 15 (putN ⟨15, d, n, m, imm⟩) = ⟨15, d, n, m, imm⟩ ∧ putN ⟨15, d, n, m, imm⟩ < 65536 := by
  rw [show ∀ a b c d : Int, (InsM.mk 15 a b c d).can = true ↔ _ from fun a b c d => can_op 15 (by omega) a b c d] at hc
  simp [shp, maxD, maxN, maxM, hasD, hasN, hasM] at hc
  rw [cn15]
  simp [putN, putGo, shp, InsM.get, free]
  try omega
set_option maxHeartbeats 1000000 in
theorem back16 (h : Nat) (hh : h / 2 ^ free 16 = (shp 16).bits / 2 ^ free 16) (hc : (candN 16 h).can = true) : putN (candN 16 h) = h := by
  rw [cn16] at hc ⊢
  rw [show ∀ a b c d : Int, (InsM.mk 16 a b c d).can = true ↔ _ from fun a b c d => can_op 16 (by omega) a b c d] at hc
  simp [shp, maxD, maxN, maxM, hasD, hasN, hasM] at hc
  simp [free, shp] at hh
  simp [putN, putGo, shp, InsM.get]
  try omega
set_option maxHeartbeats 1000000 in
theorem forth16 (d n m imm : Int) (hc : (InsM.mk 16 d n m imm).can = true) : putN ⟨16, d, n, m, imm⟩ / 2 ^ free 16 = (shp 16).bits / 2 ^ free 16 ∧ candN 16 (putN ⟨16, d, n, m, imm⟩) = ⟨16, d, n, m, imm⟩ ∧ putN ⟨16, d, n, m, imm⟩ < 65536 := by
  rw [show ∀ a b c d : Int, (InsM.mk 16 a b c d).can = true ↔ _ from fun a b c d => can_op 16 (by omega) a b c d] at hc
  simp [shp, maxD, maxN, maxM, hasD, hasN, hasM] at hc
  rw [cn16]
  simp [putN, putGo, shp, InsM.get, free]
  try omega
set_option maxHeartbeats 1000000 in
theorem back17 (h : Nat) (hh : h / 2 ^ free 17 = (shp 17).bits / 2 ^ free 17) (hc : (candN 17 h).can = true) : putN (candN 17 h) = h := by
  rw [cn17] at hc ⊢
  rw [show ∀ a b c d : Int, (InsM.mk 17 a b c d).can = true ↔ _ from fun a b c d => can_op 17 (by omega) a b c d] at hc
  simp [shp, maxD, maxN, maxM, hasD, hasN, hasM] at hc
  simp [free, shp] at hh
  simp [putN, putGo, shp, InsM.get]
  try omega
set_option maxHeartbeats 1000000 in
theorem forth17 (d n m imm : Int) (hc : (InsM.mk 17 d n m imm).can = true) : putN ⟨17, d, n, m, imm⟩ / 2 ^ free 17 = (shp 17).bits / 2 ^ free 17 ∧ candN 17 (putN ⟨17, d, n, m, imm⟩) = ⟨17, d, n, m, imm⟩ ∧ putN ⟨17, d, n, m, imm⟩ < 65536 := by
  rw [show ∀ a b c d : Int, (InsM.mk 17 a b c d).can = true ↔ _ from fun a b c d => can_op 17 (by omega) a b c d] at hc
  simp [shp, maxD, maxN, maxM, hasD, hasN, hasM] at hc
  rw [cn17]
  simp [putN, putGo, shp, InsM.get, free]
  try omega
set_option maxHeartbeats 1000000 in
theorem back18 (h : Nat) (hh : h / 2 ^ free 18 = (shp 18).bits / 2 ^ free 18) (hc : (candN 18 h).can = true) : putN (candN 18 h) = h := by
  rw [cn18] at hc ⊢
  rw [show ∀ a b c d : Int, (InsM.mk 18 a b c d).can = true ↔ _ from fun a b c d => can_op 18 (by omega) a b c d] at hc
  simp [shp, maxD, maxN, maxM, hasD, hasN, hasM] at hc
  simp [free, shp] at hh
  simp [putN, putGo, shp, InsM.get]
  try omega
set_option maxHeartbeats 1000000 in
theorem forth18 (d n m imm : Int) (hc : (InsM.mk 18 d n m imm).can = true) : putN ⟨18, d, n, m, imm⟩ / 2 ^ free 18 = (shp 18).bits / 2 ^ free 18 ∧ candN 18 (putN ⟨18, d, n, m, imm⟩) = ⟨18, d, n, m, imm⟩ ∧ putN ⟨18, d, n, m, imm⟩ < 65536 := by
  rw [show ∀ a b c d : Int, (InsM.mk 18 a b c d).can = true ↔ _ from fun a b c d => can_op 18 (by omega) a b c d] at hc
  simp [shp, maxD, maxN, maxM, hasD, hasN, hasM] at hc
  rw [cn18]
  simp [putN, putGo, shp, InsM.get, free]
  try omega
set_option maxHeartbeats 1000000 in
theorem back19 (h : Nat) (hh : h / 2 ^ free 19 = (shp 19).bits / 2 ^ free 19) (hc : (candN 19 h).can = true) : putN (candN 19 h) = h := by
  rw [cn19] at hc ⊢
  rw [show ∀ a b c d : Int, (InsM.mk 19 a b c d).can = true ↔ _ from fun a b c d => can_op 19 (by omega) a b c d] at hc
  simp [shp, maxD, maxN, maxM, hasD, hasN, hasM] at hc
  simp [free, shp] at hh
  simp [putN, putGo, shp, InsM.get]
  try omega
set_option maxHeartbeats 1000000 in
theorem forth19 (d n m imm : Int) (hc : (InsM.mk 19 d n m imm).can = true) : putN ⟨19, d, n, m, imm⟩ / 2 ^ free 19 = (shp 19).bits / 2 ^ free 19 ∧ candN 19 (putN ⟨19, d, n, m, imm⟩) = ⟨19, d, n, m, imm⟩ ∧ putN ⟨19, d, n, m, imm⟩ < 65536 := by
  rw [show ∀ a b c d : Int, (InsM.mk 19 a b c d).can = true ↔ _ from fun a b c d => can_op 19 (by omega) a b c d] at hc
  simp [shp, maxD, maxN, maxM, hasD, hasN, hasM] at hc
  rw [cn19]
  simp [putN, putGo, shp, InsM.get, free]
  try omega
set_option maxHeartbeats 1000000 in
theorem back20 (h : Nat) (hh : h / 2 ^ free 20 = (shp 20).bits / 2 ^ free 20) (hc : (candN 20 h).can = true) : putN (candN 20 h) = h := by
  rw [cn20] at hc ⊢
  rw [show ∀ a b c d : Int, (InsM.mk 20 a b c d).can = true ↔ _ from fun a b c d => can_op 20 (by omega) a b c d] at hc
  simp [shp, maxD, maxN, maxM, hasD, hasN, hasM] at hc
  simp [free, shp] at hh
  simp [putN, putGo, shp, InsM.get]
  try omega
set_option maxHeartbeats 1000000 in
theorem forth20 (d n m imm : Int) (hc : (InsM.mk 20 d n m imm).can = true) : putN ⟨20, d, n, m, imm⟩ / 2 ^ free 20 = (shp 20).bits / 2 ^ free 20 ∧ candN 20 (putN ⟨20, d, n, m, imm⟩) = ⟨20, d, n, m, imm⟩ ∧ putN ⟨20, d, n, m, imm⟩ < 65536 := by
  rw [show ∀ a b c d : Int, (InsM.mk 20 a b c d).can = true ↔ _ from fun a b c d => can_op 20 (by omega) a b c d] at hc
  simp [shp, maxD, maxN, maxM, hasD, hasN, hasM] at hc
  rw [cn20]
  simp [putN, putGo, shp, InsM.get, free]
  try omega
end Go.Abs.Th
end
section
set_option linter.unusedSimpArgs false
set_option linter.unusedVariables false
namespace Go.Abs.Th
def Pre (op h : Nat) : Prop := h / 2 ^ free op = (shp op).bits / 2 ^ free op
instance (op h : Nat) : Decidable (Pre op h) := inferInstanceAs (Decidable (_ = _))
theorem back (op : Nat) (hop : op ≤ 20) (h : Nat) (hh : Pre op h) (hc : (candN op h).can = true) : putN (candN op h) = h := by
  revert hh hc
  exact cases21 (P := fun op => Pre op h → (candN op h).can = true → putN (candN op h) = h) op hop (back0 h) (back1 h) (back2 h) (back3 h) (back4 h) (back5 h) (back6 h) (back7 h) (back8 h) (back9 h) (back10 h) (back11 h) (back12 h) (back13 h) (back14 h) (back15 h) (back16 h) (back17 h) (back18 h) (back19 h) (back20 h)
theorem forth (i : InsM) (hc : i.can = true) : Pre i.op.toNat (putN i) ∧ candN i.op.toNat (putN i) = i ∧ putN i < 65536 := by
  obtain ⟨op, d, n, m, imm⟩ := i
  obtain ⟨⟨h0, h1⟩, _⟩ := (can_iff _).1 hc
  dsimp only at h0 h1 ⊢
  obtain ⟨k, rfl⟩ : ∃ k : Nat, op = k := ⟨op.toNat, by omega⟩
  rw [Int.toNat_natCast]
  have hk : k ≤ 20 := by omega
  clear h0 h1
  revert hc
  exact cases21 (P := fun k => (InsM.mk k d n m imm).can = true → Pre k (putN ⟨k, d, n, m, imm⟩) ∧ candN k (putN ⟨k, d, n, m, imm⟩) = ⟨k, d, n, m, imm⟩ ∧ putN ⟨k, d, n, m, imm⟩ < 65536) k hk (forth0 d n m imm) (forth1 d n m imm) (forth2 d n m imm) (forth3 d n m imm) (forth4 d n m imm) (forth5 d n m imm) (forth6 d n m imm) (forth7 d n m imm) (forth8 d n m imm) (forth9 d n m imm) (forth10 d n m imm)
    (forth11 d n m imm) (forth12 d n m imm) (forth13 d n m imm) (forth14 d n m imm) (forth15 d n m imm) (forth16 d n m imm) (forth17 d n m imm) (forth18 d n m imm) (forth19 d n m imm) (forth20 d n m imm)
theorem candN_op (op h : Nat) (hop : op ≤ 20) : (candN op h).op = op :=
  cases21 (P := fun op => (candN op h).op = op) op hop (by rw [cn0]; rfl) (by rw [cn1]; rfl) (by rw [cn2]; rfl) (by rw [cn3]; rfl) (by rw [cn4]; rfl) (by rw [cn5]; rfl) (by rw [cn6]; rfl) (by rw [cn7]; rfl) (by rw [cn8]; rfl) (by rw [cn9]; rfl) (by rw [cn10]; rfl)
    (by rw [cn11]; rfl) (by rw [cn12]; rfl) (by rw [cn13]; rfl) (by rw [cn14]; rfl) (by rw [cn15]; rfl) (by rw [cn16]; rfl) (by rw [cn17]; rfl) (by rw [cn18]; rfl) (by rw [cn19]; rfl) (by rw [cn20]; rfl)
theorem apart : ∀ op : Nat, op ≤ 20 → ∀ op' : Nat, op' ≤ 20 → op ≠ op' → (shp op).bits / 2 ^ (max (free op) (free op')) ≠ (shp op').bits / 2 ^ (max (free op) (free op')) := by decide +kernel
theorem pre_one {op op' h : Nat} (h1 : op ≤ 20) (h2 : op' ≤ 20) (p : Pre op h) (q : Pre op' h) : op = op' := by
  refine Decidable.byContradiction fun hn => apart op h1 op' h2 hn ?_
  have key : ∀ a b n m : Nat, a / 2 ^ n = b / 2 ^ n → n ≤ m → a / 2 ^ m = b / 2 ^ m := by
    intro a b n m e hl
    obtain ⟨k, rfl⟩ : ∃ k, m = n + k := ⟨m - n, by omega⟩
    rw [Nat.pow_add, ← Nat.div_div_eq_div_mul, ← Nat.div_div_eq_div_mul, e]
  rw [← key _ _ _ _ p (by omega), key _ _ _ _ q (by omega)]
theorem isN_iff (op h : Nat) (hop : op ≤ 20) : isN op h = true ↔ Pre op h ∧ (candN op h).can = true := by
  unfold isN
  simp only [Bool.and_eq_true, beq_iff_eq]
  constructor
  · rintro ⟨h1, h2⟩
    have := (forth _ h1).1
    rw [h2, candN_op op h hop, Int.toNat_natCast] at this
    exact ⟨this, h1⟩
  · rintro ⟨h1, h2⟩
    exact ⟨h2, back op hop h h1 h2⟩
theorem takeGo_hit (h op : Nat) (hop : op ≤ 20) (hi : isN op h = true) : ∀ k s : Nat, s + k = 21 → s ≤ op → takeGo h k s = (candN op h, 0)
  | 0, s, h1, h2 => by omega
  | k + 1, s, h1, h2 => by
    unfold takeGo
    by_cases e : isN s h = true
    · rw [if_pos e, pre_one (by omega) hop ((isN_iff s h (by omega)).1 e).1 ((isN_iff op h hop).1 hi).1]
    · rw [if_neg e]
      exact takeGo_hit h op hop hi k (s + 1) (by omega) (by
        have : s ≠ op := fun q => e (q ▸ hi)
        omega)
theorem takeGo_miss (h : Nat) (hn : ∀ op, op ≤ 20 → isN op h = false) : ∀ k s : Nat, s + k = 21 → takeGo h k s = (InsM.zero, 20)
  | 0, s, _ => rfl
  | k + 1, s, h1 => by
    unfold takeGo
    rw [hn s (by omega)]
    exact takeGo_miss h hn k (s + 1) (by omega)
theorem takeN_hit {op h : Nat} (hop : op ≤ 20) (hi : isN op h = true) : takeN h = (candN op h, 0) := takeGo_hit h op hop hi 21 0 rfl (by omega)
theorem takeN_miss {h : Nat} (hn : ∀ op, op ≤ 20 → isN op h = false) : takeN h = (InsM.zero, 20) := takeGo_miss h hn 21 0 rfl
theorem takeN_or (h : Nat) : (∃ i : InsM, i.can = true ∧ putN i = h ∧ takeN h = (i, 0)) ∨ takeN h = (InsM.zero, 20) := by
  by_cases e : ∃ op, op ≤ 20 ∧ isN op h = true
  · obtain ⟨op, h1, h2⟩ := e
    have h3 := (isN_iff op h h1).1 h2
    exact .inl ⟨candN op h, h3.2, back op h1 h h3.1 h3.2, takeN_hit h1 h2⟩
  · refine .inr (takeN_miss fun op h1 => ?_)
    cases q : isN op h with
    | false => rfl
    | true => exact (e ⟨op, h1, q⟩).elim
end Go.Abs.Th
end
