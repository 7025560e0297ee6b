

set_option linter.unusedSimpArgs false
set_option linter.unusedVariables false
set_option maxHeartbeats 20000000
set_option maxRecDepth 100000
section
section
namespace Go.Abs.Th
structure InsM where
 op : Int
 d : Int
 n : Int
 m : Int
 imm : Int
deriving DecidableEq
def InsM.zero : InsM := ⟨0, 0, 0, 0, 0⟩
structure Part where
 of : Nat
 at_ : Nat
 wide : Nat
structure Shp where
 bits : Nat
 parts : List Part
 low : Int
 high : Int
def shp : Nat → Shp
 | 0 => ⟨0x2000, [⟨0, 8, 3⟩, ⟨3, 0, 8⟩], 0, 255⟩
 | 1 => ⟨0x2800, [⟨0, 8, 3⟩, ⟨3, 0, 8⟩], 0, 255⟩
 | 2 => ⟨0x3000, [⟨0, 8, 3⟩, ⟨3, 0, 8⟩], 0, 255⟩
 | 3 => ⟨0x3800, [⟨0, 8, 3⟩, ⟨3, 0, 8⟩], 0, 255⟩
 | 4 => ⟨0x0000, [⟨3, 6, 5⟩, ⟨2, 3, 3⟩, ⟨0, 0, 3⟩], 0, 31⟩
 | 5 => ⟨0x0800, [⟨3, 6, 5⟩, ⟨2, 3, 3⟩, ⟨0, 0, 3⟩], 1, 32⟩
 | 6 => ⟨0x1000, [⟨3, 6, 5⟩, ⟨2, 3, 3⟩, ⟨0, 0, 3⟩], 1, 32⟩
 | 7 => ⟨0x1800, [⟨2, 6, 3⟩, ⟨1, 3, 3⟩, ⟨0, 0, 3⟩], 0, 0⟩
 | 8 => ⟨0x1a00, [⟨2, 6, 3⟩, ⟨1, 3, 3⟩, ⟨0, 0, 3⟩], 0, 0⟩
 | 9 => ⟨0x1c00, [⟨3, 6, 3⟩, ⟨1, 3, 3⟩, ⟨0, 0, 3⟩], 0, 7⟩
 | 10 => ⟨0x1e00, [⟨3, 6, 3⟩, ⟨1, 3, 3⟩, ⟨0, 0, 3⟩], 0, 7⟩
 | 11 => ⟨0x4000, [⟨3, 6, 4⟩, ⟨2, 3, 3⟩, ⟨0, 0, 3⟩], 0, 15⟩
 | 12 => ⟨0x6800, [⟨3, 6, 5⟩, ⟨1, 3, 3⟩, ⟨0, 0, 3⟩], 0, 31⟩
 | 13 => ⟨0x6000, [⟨3, 6, 5⟩, ⟨1, 3, 3⟩, ⟨0, 0, 3⟩], 0, 31⟩
 | 14 => ⟨0x5800, [⟨2, 6, 3⟩, ⟨1, 3, 3⟩, ⟨0, 0, 3⟩], 0, 0⟩
 | 15 => ⟨0x5000, [⟨2, 6, 3⟩, ⟨1, 3, 3⟩, ⟨0, 0, 3⟩], 0, 0⟩
 | 16 => ⟨0x4800, [⟨0, 8, 3⟩, ⟨3, 0, 8⟩], 0, 255⟩
 | 17 => ⟨0xe000, [⟨3, 0, 11⟩], -1024, 1023⟩
 | 18 => ⟨0xd000, [⟨4, 8, 4⟩, ⟨3, 0, 8⟩], -128, 127⟩
 | 19 => ⟨0xbf00, [], 0, 0⟩
 | _ => ⟨0xbe00, [⟨3, 0, 8⟩], 0, 255⟩
def free (op : Nat) : Nat := ((shp op).parts.map Part.wide).sum
def InsM.get (i : InsM) : Nat → Int
 | 0 => i.d
 | 1 => i.n
 | 2 => i.m
 | 3 => i.imm
 | _ => i.d
def InsM.put (i : InsM) (x : Int) : Nat → InsM
 | 0 => { i with d := x }
 | 1 => { i with n := x }
 | 2 => { i with m := x }
 | 3 => { i with imm := x }
 | _ => { i with d := x }
def hasD : Nat → Bool
 | 17 | 18 | 19 | 20 => false
 | _ => true
def hasN : Nat → Bool
 | 7 | 8 | 9 | 10 | 12 | 13 | 14 | 15 => true
 | _ => false
def hasM : Nat → Bool
 | 4 | 5 | 6 | 7 | 8 | 11 | 14 | 15 => true
 | _ => false
def maxD (op : Nat) : Int := if op = 18 then 13 else if hasD op then 7 else 0
def maxN (op : Nat) : Int := if hasN op then 7 else 0
def maxM (op : Nat) : Int := if hasM op then 7 else 0
def InsM.can (i : InsM) : Bool :=
 decide (0 ≤ i.op) && decide (i.op ≤ 20) && (decide ((shp i.op.toNat).low ≤ i.imm) && decide (i.imm ≤ (shp i.op.toNat).high) && decide (0 ≤ i.d) && decide (i.d ≤ maxD i.op.toNat) &&
  decide (0 ≤ i.n) && decide (i.n ≤ maxN i.op.toNat) && decide (0 ≤ i.m) && decide (i.m ≤ maxM i.op.toNat))
def putGo (i : InsM) : List Part → Nat → Nat
 | [], h => h
 | p :: ps, h => putGo i ps (h + (i.get p.of % 2 ^ p.wide).toNat * 2 ^ p.at_)
def putN (i : InsM) : Nat := putGo i (shp i.op.toNat).parts (shp i.op.toNat).bits
def z_cs (s : Shp) (h : Nat) : List Part → InsM → InsM
 | [], i => i
 | p :: ps, i => z_cs s h ps (i.put (
   let x : Int := (h / 2 ^ p.at_ % 2 ^ p.wide : Nat)
   if p.of = 3 ∧ s.low < 0 ∧ x > s.high then x - 2 ^ p.wide else if p.of = 3 ∧ s.low = 1 ∧ x = 0 then s.high else x) p.of)
def candN (op h : Nat) : InsM := z_cs (shp op) h (shp op).parts ⟨op, 0, 0, 0, 0⟩
def isN (op h : Nat) : Bool := (candN op h).can && putN (candN op h) == h
def z_hv (h : Nat) : Nat → Nat → InsM × Int
 | 0, _ => (InsM.zero, 20)
 | k + 1, op => if isN op h then (candN op h, 0) else z_hv h k (op + 1)
def takeN (h : Nat) : InsM × Int := z_hv h 21 0
def txt : Nat → List Nat
 | 0 => [48,48,49,48,48,100,100,100,105,105,105,105,105,105,105,105]
 | 1 => [48,48,49,48,49,100,100,100,105,105,105,105,105,105,105,105]
 | 2 => [48,48,49,49,48,100,100,100,105,105,105,105,105,105,105,105]
 | 3 => [48,48,49,49,49,100,100,100,105,105,105,105,105,105,105,105]
 | 4 => [48,48,48,48,48,105,105,105,105,105,109,109,109,100,100,100]
 | 5 => [48,48,48,48,49,105,105,105,105,105,109,109,109,100,100,100]
 | 6 => [48,48,48,49,48,105,105,105,105,105,109,109,109,100,100,100]
 | 7 => [48,48,48,49,49,48,48,109,109,109,110,110,110,100,100,100]
 | 8 => [48,48,48,49,49,48,49,109,109,109,110,110,110,100,100,100]
 | 9 => [48,48,48,49,49,49,48,105,105,105,110,110,110,100,100,100]
 | 10 => [48,48,48,49,49,49,49,105,105,105,110,110,110,100,100,100]
 | 11 => [48,49,48,48,48,48,105,105,105,105,109,109,109,100,100,100]
 | 12 => [48,49,49,48,49,105,105,105,105,105,110,110,110,100,100,100]
 | 13 => [48,49,49,48,48,105,105,105,105,105,110,110,110,100,100,100]
 | 14 => [48,49,48,49,49,48,48,109,109,109,110,110,110,100,100,100]
 | 15 => [48,49,48,49,48,48,48,109,109,109,110,110,110,100,100,100]
 | 16 => [48,49,48,48,49,100,100,100,105,105,105,105,105,105,105,105]
 | 17 => [49,49,49,48,48,105,105,105,105,105,105,105,105,105,105,105]
 | 18 => [49,49,48,49,99,99,99,99,105,105,105,105,105,105,105,105]
 | 19 => [49,48,49,49,49,49,49,49,48,48,48,48,48,48,48,48]
 | _ => [49,48,49,49,49,49,49,48,105,105,105,105,105,105,105,105]
structure PutS where
 h : Nat
 d : Nat
 n : Nat
 m : Nat
 imm : Nat
structure TakeS where
 x : Nat
 ok : Bool
 wide : Nat
 d : Nat
 n : Nat
 m : Nat
 imm : Nat
def z_hk (c : Nat) (s : TakeS) : TakeS :=
 let bit := s.x / 32768
 let s := { s with x := s.x % 32768 * 2 }
 if c = 48 ∨ c = 49 then { s with ok := s.ok && c == 48 + bit }
 else if c = 100 ∨ c = 99 then { s with d := s.d * 2 + bit }
 else if c = 110 then { s with n := s.n * 2 + bit }
 else if c = 109 then { s with m := s.m * 2 + bit }
 else if c = 105 then { s with imm := s.imm * 2 + bit, wide := s.wide * 2 }
 else s
def z_fu : List Nat → TakeS → TakeS
 | [], s => s
 | c :: cs, s => z_fu cs (z_hk c s)
def takeS (op h : Nat) : TakeS := z_fu (txt op) ⟨h, true, 1, 0, 0, 0, 0⟩
def candR (op h : Nat) : InsM :=
 let s := takeS op h
 let i1 : Int := if (shp op).low < 0 ∧ (s.imm : Int) > (shp op).high then s.imm - s.wide else s.imm
 let i2 : Int := if (shp op).low = 1 ∧ i1 = 0 then 32 else i1
 ⟨op, s.d, s.n, s.m, i2⟩
def isR (op h : Nat) : Bool := (takeS op h).ok && (candR op h).can
def bitIn (c bit : Nat) (s : TakeS) : TakeS :=
 if c = 48 ∨ c = 49 then { s with ok := s.ok && c == 48 + bit }
 else if c = 100 ∨ c = 99 then { s with d := s.d * 2 + bit }
 else if c = 110 then { s with n := s.n * 2 + bit }
 else if c = 109 then { s with m := s.m * 2 + bit }
 else if c = 105 then { s with imm := s.imm * 2 + bit, wide := s.wide * 2 }
 else s
def takeH (h : Nat) : List Nat → TakeS → TakeS
 | [], s => s
 | c :: cs, s => takeH h cs (bitIn c (h / 2 ^ cs.length % 2) s)
theorem z_ui (c bit x : Nat) (s : TakeS) : { bitIn c bit s with x := x } = bitIn c bit { s with x := x } := by
 unfold bitIn; repeat' split
 all_goals rfl
theorem z_ls (h : Nat) : ∀ (cs : List Nat) (s : TakeS) (x : Nat), { takeH h cs s with x := x } = takeH h cs { s with x := x }
 | [], s, x => rfl
 | c :: cs, s, x => by simp only [takeH]; rw [z_ls h cs, z_ui]
theorem z_kw (h : Nat) : ∀ (cs : List Nat) (s : TakeS), cs.length ≤ 16 → s.x = h % 2 ^ cs.length * 2 ^ (16 - cs.length) → z_fu cs s = { takeH h cs s with x := 0 }
 | [], s, _, hx => by
  simp only [List.length_nil, Nat.pow_zero, Nat.mod_one, Nat.zero_mul] at hx
  obtain ⟨x, ok, wide, d, n, m, imm⟩ := s
  simp only at hx
  subst hx; rfl
 | c :: cs, s, hl, hx => by
  simp only [List.length_cons] at hl hx
  have p1 : (32768 : Nat) = 2 ^ cs.length * 2 ^ (15 - cs.length) := by rw [← Nat.pow_add, show cs.length + (15 - cs.length) = 15 from by omega]
  have p2 : 16 - (cs.length + 1) = 15 - cs.length := by omega
  have p3 : 2 ^ (16 - cs.length) = 2 ^ (15 - cs.length) * 2 := by rw [← Nat.pow_succ]; congr 1; omega
  have hb : s.x / 32768 = h / 2 ^ cs.length % 2 := by
   rw [hx, p2, p1, Nat.mul_div_mul_right _ _ (Nat.two_pow_pos _), Nat.pow_succ, Nat.mod_mul_right_div_self]
  have hr : s.x % 32768 * 2 = h % 2 ^ cs.length * 2 ^ (16 - cs.length) := by
   rw [hx, p2, p1, Nat.mul_mod_mul_right, Nat.pow_succ, Nat.mod_mul_right_mod, p3, Nat.mul_assoc]
  show z_fu cs (bitIn c (s.x / 32768) { s with x := s.x % 32768 * 2 }) = _
  rw [z_kw h cs _ (by omega) (by
   rw [← hr]; unfold bitIn; repeat' split
   all_goals rfl), hb, ← z_ui, ← z_ls]
  rfl
theorem z_dv (op h : Nat) (hop : op ≤ 20) (hh : h < 65536) : takeS op h = { takeH h (txt op) ⟨0, true, 1, 0, 0, 0, 0⟩ with x := 0 } := by
 have hl : (txt op).length = 16 := by
  have : ∀ op : Nat, op ≤ 20 → (txt op).length = 16 := by decide
  exact this op hop
 unfold takeS
 rw [z_kw h _ _ (by omega) (by rw [hl, Nat.mod_eq_of_lt (by omega)]; simp), z_ls, z_ls]
theorem ops {P : Nat → Prop} (h : ∀ op : Nat, op ≤ 20 → P op) (op : Int) (h0 : 0 ≤ op) (h1 : op ≤ 20) : P op.toNat := h _ (by omega)
theorem cases21 {P : Nat → Prop} (op : Nat) (h : op ≤ 20) (h0 : P 0) (h1 : P 1) (h2 : P 2) (h3 : P 3) (h4 : P 4) (h5 : P 5) (h6 : P 6) (h7 : P 7) (h8 : P 8) (h9 : P 9) (h10 : P 10) (h11 : P 11) (h12 : P 12) (h13 : P 13) (h14 : P 14) (h15 : P 15) (h16 : P 16)
  (h17 : P 17) (h18 : P 18) (h19 : P 19) (h20 : P 20) : P op := by
 match op, h with
 | 0, _ => exact h0 | 1, _ => exact h1 | 2, _ => exact h2 | 3, _ => exact h3 | 4, _ => exact h4 | 5, _ => exact h5 | 6, _ => exact h6 | 7, _ => exact h7 | 8, _ => exact h8 | 9, _ => exact h9 | 10, _ => exact h10
 | 11, _ => exact h11 | 12, _ => exact h12 | 13, _ => exact h13 | 14, _ => exact h14 | 15, _ => exact h15 | 16, _ => exact h16 | 17, _ => exact h17 | 18, _ => exact h18 | 19, _ => exact h19 | 20, _ => exact h20
 | n + 21, h => omega
theorem tk0 (h : Nat) (hh : h < 65536) : takeS 0 h = ⟨0, (((((true && (48 == 48 + h / 32768 % 2)) && (48 == 48 + h / 16384 % 2)) && (49 == 48 + h / 8192 % 2)) && (48 == 48 + h / 4096 % 2)) && (48 == 48 + h / 2048 % 2)), ((((((((1 * 2) * 2) * 2) * 2) * 2) * 2) * 2) * 2), (((0 * 2 + h / 1024 % 2) * 2 + h / 512 % 2) * 2 + h / 256 % 2), 0, 0, ((((((((0 * 2 + h / 128 % 2) * 2 + h / 64 % 2) * 2 + h / 32 % 2) * 2 + h / 16 % 2) * 2 + h / 8 % 2) * 2 + h / 4 % 2) * 2 + h / 2 % 2) * 2 + h / 1 % 2)⟩ := by rw [z_dv 0 h (by omega) hh]; rfl
theorem ok0 (h : Nat) (hh : h < 65536) : (takeS 0 h).ok = decide (h / 2 ^ free 0 = (shp 0).bits / 2 ^ free 0) := by
 rw [tk0 h hh, show decide (h / 2 ^ free 0 = (shp 0).bits / 2 ^ free 0) = decide (h / 2048 = 4) from rfl, Bool.eq_iff_iff]
 simp only [Bool.and_eq_true, decide_eq_true_eq, beq_iff_eq, true_and]
 constructor
 ·rintro ⟨⟨⟨⟨q0, q1⟩, q2⟩, q3⟩, q4⟩
  have s0 : h / 32768 = 0 := by clear q1 q2 q3 q4; omega
  have s1 : h / 16384 = 0 := by clear q0 q2 q3 q4; omega
  have s2 : h / 8192 = 1 := by clear q0 q1 q3 q4 s0; omega
  have s3 : h / 4096 = 2 := by clear q0 q1 q2 q4 s0 s1; omega
  have s4 : h / 2048 = 4 := by clear q0 q1 q2 q3 s0 s1 s2; omega
  exact s4
 ·intro q; (repeat' apply And.intro) <;> omega
theorem cn0 (h : Nat) : candN 0 h = ⟨0, ((h / 256 % 8 : Nat) : Int), (0 : Int), (0 : Int), ((h / 1 % 256 : Nat) : Int)⟩ := by
 unfold candN z_cs; simp [z_cs, InsM.put, shp]
theorem cand0 (h : Nat) (hh : h < 65536) : candR 0 h = candN 0 h := by
 rw [cn0]
 unfold candR; rw [tk0 h hh]
 dsimp only
 rw [show 0 * 2 + h / 1024 % 2 = h / 1024 % 2 from by omega]
 rw [show h / 1024 % 2 * 2 + h / 512 % 2 = h / 512 % 4 from by omega]
 rw [show h / 512 % 4 * 2 + h / 256 % 2 = h / 256 % 8 from by omega]
 rw [show 0 * 2 + h / 128 % 2 = h / 128 % 2 from by omega]
 rw [show h / 128 % 2 * 2 + h / 64 % 2 = h / 64 % 4 from by omega]
 rw [show h / 64 % 4 * 2 + h / 32 % 2 = h / 32 % 8 from by omega]
 rw [show h / 32 % 8 * 2 + h / 16 % 2 = h / 16 % 16 from by omega]
 rw [show h / 16 % 16 * 2 + h / 8 % 2 = h / 8 % 32 from by omega]
 rw [show h / 8 % 32 * 2 + h / 4 % 2 = h / 4 % 64 from by omega]
 rw [show h / 4 % 64 * 2 + h / 2 % 2 = h / 2 % 128 from by omega]
 rw [show h / 2 % 128 * 2 + h / 1 % 2 = h / 1 % 256 from by omega]
 simp [shp]
 try omega
theorem tk1 (h : Nat) (hh : h < 65536) : takeS 1 h = ⟨0, (((((true && (48 == 48 + h / 32768 % 2)) && (48 == 48 + h / 16384 % 2)) && (49 == 48 + h / 8192 % 2)) && (48 == 48 + h / 4096 % 2)) && (49 == 48 + h / 2048 % 2)), ((((((((1 * 2) * 2) * 2) * 2) * 2) * 2) * 2) * 2), (((0 * 2 + h / 1024 % 2) * 2 + h / 512 % 2) * 2 + h / 256 % 2), 0, 0, ((((((((0 * 2 + h / 128 % 2) * 2 + h / 64 % 2) * 2 + h / 32 % 2) * 2 + h / 16 % 2) * 2 + h / 8 % 2) * 2 + h / 4 % 2) * 2 + h / 2 % 2) * 2 + h / 1 % 2)⟩ := by rw [z_dv 1 h (by omega) hh]; rfl
theorem ok1 (h : Nat) (hh : h < 65536) : (takeS 1 h).ok = decide (h / 2 ^ free 1 = (shp 1).bits / 2 ^ free 1) := by
 rw [tk1 h hh, show decide (h / 2 ^ free 1 = (shp 1).bits / 2 ^ free 1) = decide (h / 2048 = 5) from rfl, Bool.eq_iff_iff]
 simp only [Bool.and_eq_true, decide_eq_true_eq, beq_iff_eq, true_and]
 constructor
 ·rintro ⟨⟨⟨⟨q0, q1⟩, q2⟩, q3⟩, q4⟩
  have s0 : h / 32768 = 0 := by clear q1 q2 q3 q4; omega
  have s1 : h / 16384 = 0 := by clear q0 q2 q3 q4; omega
  have s2 : h / 8192 = 1 := by clear q0 q1 q3 q4 s0; omega
  have s3 : h / 4096 = 2 := by clear q0 q1 q2 q4 s0 s1; omega
  have s4 : h / 2048 = 5 := by clear q0 q1 q2 q3 s0 s1 s2; omega
  exact s4
 ·intro q; (repeat' apply And.intro) <;> omega
theorem cn1 (h : Nat) : candN 1 h = ⟨1, ((h / 256 % 8 : Nat) : Int), (0 : Int), (0 : Int), ((h / 1 % 256 : Nat) : Int)⟩ := by
 unfold candN z_cs; simp [z_cs, InsM.put, shp]
theorem cand1 (h : Nat) (hh : h < 65536) : candR 1 h = candN 1 h := by
 rw [cn1]
 unfold candR; rw [tk1 h hh]
 dsimp only
 rw [show 0 * 2 + h / 1024 % 2 = h / 1024 % 2 from by omega]
 rw [show h / 1024 % 2 * 2 + h / 512 % 2 = h / 512 % 4 from by omega]
 rw [show h / 512 % 4 * 2 + h / 256 % 2 = h / 256 % 8 from by omega]
 rw [show 0 * 2 + h / 128 % 2 = h / 128 % 2 from by omega]
 rw [show h / 128 % 2 * 2 + h / 64 % 2 = h / 64 % 4 from by omega]
 rw [show h / 64 % 4 * 2 + h / 32 % 2 = h / 32 % 8 from by omega]
 rw [show h / 32 % 8 * 2 + h / 16 % 2 = h / 16 % 16 from by omega]
 rw [show h / 16 % 16 * 2 + h / 8 % 2 = h / 8 % 32 from by omega]
 rw [show h / 8 % 32 * 2 + h / 4 % 2 = h / 4 % 64 from by omega]
 rw [show h / 4 % 64 * 2 + h / 2 % 2 = h / 2 % 128 from by omega]
 rw [show h / 2 % 128 * 2 + h / 1 % 2 = h / 1 % 256 from by omega]
 simp [shp]
 try omega
theorem tk2 (h : Nat) (hh : h < 65536) : takeS 2 h = ⟨0, (((((true && (48 == 48 + h / 32768 % 2)) && (48 == 48 + h / 16384 % 2)) && (49 == 48 + h / 8192 % 2)) && (49 == 48 + h / 4096 % 2)) && (48 == 48 + h / 2048 % 2)), ((((((((1 * 2) * 2) * 2) * 2) * 2) * 2) * 2) * 2), (((0 * 2 + h / 1024 % 2) * 2 + h / 512 % 2) * 2 + h / 256 % 2), 0, 0, ((((((((0 * 2 + h / 128 % 2) * 2 + h / 64 % 2) * 2 + h / 32 % 2) * 2 + h / 16 % 2) * 2 + h / 8 % 2) * 2 + h / 4 % 2) * 2 + h / 2 % 2) * 2 + h / 1 % 2)⟩ := by rw [z_dv 2 h (by omega) hh]; rfl
theorem ok2 (h : Nat) (hh : h < 65536) : (takeS 2 h).ok = decide (h / 2 ^ free 2 = (shp 2).bits / 2 ^ free 2) := by
 rw [tk2 h hh, show decide (h / 2 ^ free 2 = (shp 2).bits / 2 ^ free 2) = decide (h / 2048 = 6) from rfl, Bool.eq_iff_iff]
 simp only [Bool.and_eq_true, decide_eq_true_eq, beq_iff_eq, true_and]
 constructor
 ·rintro ⟨⟨⟨⟨q0, q1⟩, q2⟩, q3⟩, q4⟩
  have s0 : h / 32768 = 0 := by clear q1 q2 q3 q4; omega
  have s1 : h / 16384 = 0 := by clear q0 q2 q3 q4; omega
  have s2 : h / 8192 = 1 := by clear q0 q1 q3 q4 s0; omega
  have s3 : h / 4096 = 3 := by clear q0 q1 q2 q4 s0 s1; omega
  have s4 : h / 2048 = 6 := by clear q0 q1 q2 q3 s0 s1 s2; omega
  exact s4
 ·intro q; (repeat' apply And.intro) <;> omega
theorem cn2 (h : Nat) : candN 2 h = ⟨2, ((h / 256 % 8 : Nat) : Int), (0 : Int), (0 : Int), ((h / 1 % 256 : Nat) : Int)⟩ := by
 unfold candN z_cs; simp [z_cs, InsM.put, shp]
theorem cand2 (h : Nat) (hh : h < 65536) : candR 2 h = candN 2 h := by
 rw [cn2]
 unfold candR; rw [tk2 h hh]
 dsimp only
 rw [show 0 * 2 + h / 1024 % 2 = h / 1024 % 2 from by omega]
 rw [show h / 1024 % 2 * 2 + h / 512 % 2 = h / 512 % 4 from by omega]
 rw [show h / 512 % 4 * 2 + h / 256 % 2 = h / 256 % 8 from by omega]
 rw [show 0 * 2 + h / 128 % 2 = h / 128 % 2 from by omega]
 rw [show h / 128 % 2 * 2 + h / 64 % 2 = h / 64 % 4 from by omega]
 rw [show h / 64 % 4 * 2 + h / 32 % 2 = h / 32 % 8 from by omega]
 rw [show h / 32 % 8 * 2 + h / 16 % 2 = h / 16 % 16 from by omega]
 rw [show h / 16 % 16 * 2 + h / 8 % 2 = h / 8 % 32 from by omega]
 rw [show h / 8 % 32 * 2 + h / 4 % 2 = h / 4 % 64 from by omega]
 rw [show h / 4 % 64 * 2 + h / 2 % 2 = h / 2 % 128 from by omega]
 rw [show h / 2 % 128 * 2 + h / 1 % 2 = h / 1 % 256 from by omega]
 simp [shp]
 try omega
theorem tk3 (h : Nat) (hh : h < 65536) : takeS 3 h = ⟨0, (((((true && (48 == 48 + h / 32768 % 2)) && (48 == 48 + h / 16384 % 2)) && (49 == 48 + h / 8192 % 2)) && (49 == 48 + h / 4096 % 2)) && (49 == 48 + h / 2048 % 2)), ((((((((1 * 2) * 2) * 2) * 2) * 2) * 2) * 2) * 2), (((0 * 2 + h / 1024 % 2) * 2 + h / 512 % 2) * 2 + h / 256 % 2), 0, 0, ((((((((0 * 2 + h / 128 % 2) * 2 + h / 64 % 2) * 2 + h / 32 % 2) * 2 + h / 16 % 2) * 2 + h / 8 % 2) * 2 + h / 4 % 2) * 2 + h / 2 % 2) * 2 + h / 1 % 2)⟩ := by rw [z_dv 3 h (by omega) hh]; rfl
theorem ok3 (h : Nat) (hh : h < 65536) : (takeS 3 h).ok = decide (h / 2 ^ free 3 = (shp 3).bits / 2 ^ free 3) := by
 rw [tk3 h hh, show decide (h / 2 ^ free 3 = (shp 3).bits / 2 ^ free 3) = decide (h / 2048 = 7) from rfl, Bool.eq_iff_iff]
 simp only [Bool.and_eq_true, decide_eq_true_eq, beq_iff_eq, true_and]
 constructor
 ·rintro ⟨⟨⟨⟨q0, q1⟩, q2⟩, q3⟩, q4⟩
  have s0 : h / 32768 = 0 := by clear q1 q2 q3 q4; omega
  have s1 : h / 16384 = 0 := by clear q0 q2 q3 q4; omega
  have s2 : h / 8192 = 1 := by clear q0 q1 q3 q4 s0; omega
  have s3 : h / 4096 = 3 := by clear q0 q1 q2 q4 s0 s1; omega
  have s4 : h / 2048 = 7 := by clear q0 q1 q2 q3 s0 s1 s2; omega
  exact s4
 ·intro q; (repeat' apply And.intro) <;> omega
theorem cn3 (h : Nat) : candN 3 h = ⟨3, ((h / 256 % 8 : Nat) : Int), (0 : Int), (0 : Int), ((h / 1 % 256 : Nat) : Int)⟩ := by
 unfold candN z_cs; simp [z_cs, InsM.put, shp]
theorem cand3 (h : Nat) (hh : h < 65536) : candR 3 h = candN 3 h := by
 rw [cn3]
 unfold candR; rw [tk3 h hh]
 dsimp only
 rw [show 0 * 2 + h / 1024 % 2 = h / 1024 % 2 from by omega]
 rw [show h / 1024 % 2 * 2 + h / 512 % 2 = h / 512 % 4 from by omega]
 rw [show h / 512 % 4 * 2 + h / 256 % 2 = h / 256 % 8 from by omega]
 rw [show 0 * 2 + h / 128 % 2 = h / 128 % 2 from by omega]
 rw [show h / 128 % 2 * 2 + h / 64 % 2 = h / 64 % 4 from by omega]
 rw [show h / 64 % 4 * 2 + h / 32 % 2 = h / 32 % 8 from by omega]
 rw [show h / 32 % 8 * 2 + h / 16 % 2 = h / 16 % 16 from by omega]
 rw [show h / 16 % 16 * 2 + h / 8 % 2 = h / 8 % 32 from by omega]
 rw [show h / 8 % 32 * 2 + h / 4 % 2 = h / 4 % 64 from by omega]
 rw [show h / 4 % 64 * 2 + h / 2 % 2 = h / 2 % 128 from by omega]
 rw [show h / 2 % 128 * 2 + h / 1 % 2 = h / 1 % 256 from by omega]
 simp [shp]
 try omega
theorem tk4 (h : Nat) (hh : h < 65536) : takeS 4 h = ⟨0, (((((true && (48 == 48 + h / 32768 % 2)) && (48 == 48 + h / 16384 % 2)) && (48 == 48 + h / 8192 % 2)) && (48 == 48 + h / 4096 % 2)) && (48 == 48 + h / 2048 % 2)), (((((1 * 2) * 2) * 2) * 2) * 2), (((0 * 2 + h / 4 % 2) * 2 + h / 2 % 2) * 2 + h / 1 % 2), 0, (((0 * 2 + h / 32 % 2) * 2 + h / 16 % 2) * 2 + h / 8 % 2), (((((0 * 2 + h / 1024 % 2) * 2 + h / 512 % 2) * 2 + h / 256 % 2) * 2 + h / 128 % 2) * 2 + h / 64 % 2)⟩ := by rw [z_dv 4 h (by omega) hh]; rfl
theorem ok4 (h : Nat) (hh : h < 65536) : (takeS 4 h).ok = decide (h / 2 ^ free 4 = (shp 4).bits / 2 ^ free 4) := by
 rw [tk4 h hh, show decide (h / 2 ^ free 4 = (shp 4).bits / 2 ^ free 4) = decide (h / 2048 = 0) from rfl, Bool.eq_iff_iff]
 simp only [Bool.and_eq_true, decide_eq_true_eq, beq_iff_eq, true_and]
 constructor
 ·rintro ⟨⟨⟨⟨q0, q1⟩, q2⟩, q3⟩, q4⟩
  have s0 : h / 32768 = 0 := by clear q1 q2 q3 q4; omega
  have s1 : h / 16384 = 0 := by clear q0 q2 q3 q4; omega
  have s2 : h / 8192 = 0 := by clear q0 q1 q3 q4 s0; omega
  have s3 : h / 4096 = 0 := by clear q0 q1 q2 q4 s0 s1; omega
  have s4 : h / 2048 = 0 := by clear q0 q1 q2 q3 s0 s1 s2; omega
  exact s4
 ·intro q; (repeat' apply And.intro) <;> omega
theorem cn4 (h : Nat) : candN 4 h = ⟨4, ((h / 1 % 8 : Nat) : Int), (0 : Int), ((h / 8 % 8 : Nat) : Int), ((h / 64 % 32 : Nat) : Int)⟩ := by
 unfold candN z_cs; simp [z_cs, InsM.put, shp]
theorem cand4 (h : Nat) (hh : h < 65536) : candR 4 h = candN 4 h := by
 rw [cn4]
 unfold candR; rw [tk4 h hh]
 dsimp only
 rw [show 0 * 2 + h / 1024 % 2 = h / 1024 % 2 from by omega]
 rw [show h / 1024 % 2 * 2 + h / 512 % 2 = h / 512 % 4 from by omega]
 rw [show h / 512 % 4 * 2 + h / 256 % 2 = h / 256 % 8 from by omega]
 rw [show h / 256 % 8 * 2 + h / 128 % 2 = h / 128 % 16 from by omega]
 rw [show h / 128 % 16 * 2 + h / 64 % 2 = h / 64 % 32 from by omega]
 rw [show 0 * 2 + h / 32 % 2 = h / 32 % 2 from by omega]
 rw [show h / 32 % 2 * 2 + h / 16 % 2 = h / 16 % 4 from by omega]
 rw [show h / 16 % 4 * 2 + h / 8 % 2 = h / 8 % 8 from by omega]
 rw [show 0 * 2 + h / 4 % 2 = h / 4 % 2 from by omega]
 rw [show h / 4 % 2 * 2 + h / 2 % 2 = h / 2 % 4 from by omega]
 rw [show h / 2 % 4 * 2 + h / 1 % 2 = h / 1 % 8 from by omega]
 simp [shp]
 try omega
theorem tk5 (h : Nat) (hh : h < 65536) : takeS 5 h = ⟨0, (((((true && (48 == 48 + h / 32768 % 2)) && (48 == 48 + h / 16384 % 2)) && (48 == 48 + h / 8192 % 2)) && (48 == 48 + h / 4096 % 2)) && (49 == 48 + h / 2048 % 2)), (((((1 * 2) * 2) * 2) * 2) * 2), (((0 * 2 + h / 4 % 2) * 2 + h / 2 % 2) * 2 + h / 1 % 2), 0, (((0 * 2 + h / 32 % 2) * 2 + h / 16 % 2) * 2 + h / 8 % 2), (((((0 * 2 + h / 1024 % 2) * 2 + h / 512 % 2) * 2 + h / 256 % 2) * 2 + h / 128 % 2) * 2 + h / 64 % 2)⟩ := by rw [z_dv 5 h (by omega) hh]; rfl
theorem ok5 (h : Nat) (hh : h < 65536) : (takeS 5 h).ok = decide (h / 2 ^ free 5 = (shp 5).bits / 2 ^ free 5) := by
 rw [tk5 h hh, show decide (h / 2 ^ free 5 = (shp 5).bits / 2 ^ free 5) = decide (h / 2048 = 1) from rfl, Bool.eq_iff_iff]
 simp only [Bool.and_eq_true, decide_eq_true_eq, beq_iff_eq, true_and]
 constructor
 ·rintro ⟨⟨⟨⟨q0, q1⟩, q2⟩, q3⟩, q4⟩
  have s0 : h / 32768 = 0 := by clear q1 q2 q3 q4; omega
  have s1 : h / 16384 = 0 := by clear q0 q2 q3 q4; omega
  have s2 : h / 8192 = 0 := by clear q0 q1 q3 q4 s0; omega
  have s3 : h / 4096 = 0 := by clear q0 q1 q2 q4 s0 s1; omega
  have s4 : h / 2048 = 1 := by clear q0 q1 q2 q3 s0 s1 s2; omega
  exact s4
 ·intro q; (repeat' apply And.intro) <;> omega
theorem cn5 (h : Nat) : candN 5 h = ⟨5, ((h / 1 % 8 : Nat) : Int), (0 : Int), ((h / 8 % 8 : Nat) : Int), (if ((h / 64 % 32 : Nat) : Int) = 0 then 32 else ((h / 64 % 32 : Nat) : Int))⟩ := by
 unfold candN z_cs; simp [z_cs, InsM.put, shp]
theorem cand5 (h : Nat) (hh : h < 65536) : candR 5 h = candN 5 h := by
 rw [cn5]
 unfold candR; rw [tk5 h hh]
 dsimp only
 rw [show 0 * 2 + h / 1024 % 2 = h / 1024 % 2 from by omega]
 rw [show h / 1024 % 2 * 2 + h / 512 % 2 = h / 512 % 4 from by omega]
 rw [show h / 512 % 4 * 2 + h / 256 % 2 = h / 256 % 8 from by omega]
 rw [show h / 256 % 8 * 2 + h / 128 % 2 = h / 128 % 16 from by omega]
 rw [show h / 128 % 16 * 2 + h / 64 % 2 = h / 64 % 32 from by omega]
 rw [show 0 * 2 + h / 32 % 2 = h / 32 % 2 from by omega]
 rw [show h / 32 % 2 * 2 + h / 16 % 2 = h / 16 % 4 from by omega]
 rw [show h / 16 % 4 * 2 + h / 8 % 2 = h / 8 % 8 from by omega]
 rw [show 0 * 2 + h / 4 % 2 = h / 4 % 2 from by omega]
 rw [show h / 4 % 2 * 2 + h / 2 % 2 = h / 2 % 4 from by omega]
 rw [show h / 2 % 4 * 2 + h / 1 % 2 = h / 1 % 8 from by omega]
 simp [shp]
 try omega
theorem tk6 (h : Nat) (hh : h < 65536) : takeS 6 h = ⟨0, (((((true && (48 == 48 + h / 32768 % 2)) && (48 == 48 + h / 16384 % 2)) && (48 == 48 + h / 8192 % 2)) && (49 == 48 + h / 4096 % 2)) && (48 == 48 + h / 2048 % 2)), (((((1 * 2) * 2) * 2) * 2) * 2), (((0 * 2 + h / 4 % 2) * 2 + h / 2 % 2) * 2 + h / 1 % 2), 0, (((0 * 2 + h / 32 % 2) * 2 + h / 16 % 2) * 2 + h / 8 % 2), (((((0 * 2 + h / 1024 % 2) * 2 + h / 512 % 2) * 2 + h / 256 % 2) * 2 + h / 128 % 2) * 2 + h / 64 % 2)⟩ := by rw [z_dv 6 h (by omega) hh]; rfl
theorem ok6 (h : Nat) (hh : h < 65536) : (takeS 6 h).ok = decide (h / 2 ^ free 6 = (shp 6).bits / 2 ^ free 6) := by
 rw [tk6 h hh, show decide (h / 2 ^ free 6 = (shp 6).bits / 2 ^ free 6) = decide (h / 2048 = 2) from rfl, Bool.eq_iff_iff]
 simp only [Bool.and_eq_true, decide_eq_true_eq, beq_iff_eq, true_and]
 constructor
 ·rintro ⟨⟨⟨⟨q0, q1⟩, q2⟩, q3⟩, q4⟩
  have s0 : h / 32768 = 0 := by clear q1 q2 q3 q4; omega
  have s1 : h / 16384 = 0 := by clear q0 q2 q3 q4; omega
  have s2 : h / 8192 = 0 := by clear q0 q1 q3 q4 s0; omega
  have s3 : h / 4096 = 1 := by clear q0 q1 q2 q4 s0 s1; omega
  have s4 : h / 2048 = 2 := by clear q0 q1 q2 q3 s0 s1 s2; omega
  exact s4
 ·intro q; (repeat' apply And.intro) <;> omega
theorem cn6 (h : Nat) : candN 6 h = ⟨6, ((h / 1 % 8 : Nat) : Int), (0 : Int), ((h / 8 % 8 : Nat) : Int), (if ((h / 64 % 32 : Nat) : Int) = 0 then 32 else ((h / 64 % 32 : Nat) : Int))⟩ := by
 unfold candN z_cs; simp [z_cs, InsM.put, shp]
theorem cand6 (h : Nat) (hh : h < 65536) : candR 6 h = candN 6 h := by
 rw [cn6]
 unfold candR; rw [tk6 h hh]
 dsimp only
 rw [show 0 * 2 + h / 1024 % 2 = h / 1024 % 2 from by omega]
 rw [show h / 1024 % 2 * 2 + h / 512 % 2 = h / 512 % 4 from by omega]
 rw [show h / 512 % 4 * 2 + h / 256 % 2 = h / 256 % 8 from by omega]
 rw [show h / 256 % 8 * 2 + h / 128 % 2 = h / 128 % 16 from by omega]
 rw [show h / 128 % 16 * 2 + h / 64 % 2 = h / 64 % 32 from by omega]
 rw [show 0 * 2 + h / 32 % 2 = h / 32 % 2 from by omega]
 rw [show h / 32 % 2 * 2 + h / 16 % 2 = h / 16 % 4 from by omega]
 rw [show h / 16 % 4 * 2 + h / 8 % 2 = h / 8 % 8 from by omega]
 rw [show 0 * 2 + h / 4 % 2 = h / 4 % 2 from by omega]
 rw [show h / 4 % 2 * 2 + h / 2 % 2 = h / 2 % 4 from by omega]
 rw [show h / 2 % 4 * 2 + h / 1 % 2 = h / 1 % 8 from by omega]
 simp [shp]
 try omega
theorem tk7 (h : Nat) (hh : h < 65536) : takeS 7 h = ⟨0, (((((((true && (48 == 48 + h / 32768 % 2)) && (48 == 48 + h / 16384 % 2)) && (48 == 48 + h / 8192 % 2)) && (49 == 48 + h / 4096 % 2)) && (49 == 48 + h / 2048 % 2)) && (48 == 48 + h / 1024 % 2)) && (48 == 48 + h / 512 % 2)), 1, (((0 * 2 + h / 4 % 2) * 2 + h / 2 % 2) * 2 + h / 1 % 2), (((0 * 2 + h / 32 % 2) * 2 + h / 16 % 2) * 2 + h / 8 % 2), (((0 * 2 + h / 256 % 2) * 2 + h / 128 % 2) * 2 + h / 64 % 2), 0⟩ := by rw [z_dv 7 h (by omega) hh]; rfl
theorem ok7 (h : Nat) (hh : h < 65536) : (takeS 7 h).ok = decide (h / 2 ^ free 7 = (shp 7).bits / 2 ^ free 7) := by
 rw [tk7 h hh, show decide (h / 2 ^ free 7 = (shp 7).bits / 2 ^ free 7) = decide (h / 512 = 12) from rfl, Bool.eq_iff_iff]
 simp only [Bool.and_eq_true, decide_eq_true_eq, beq_iff_eq, true_and]
 constructor
 ·rintro ⟨⟨⟨⟨⟨⟨q0, q1⟩, q2⟩, q3⟩, q4⟩, q5⟩, q6⟩
  have s0 : h / 32768 = 0 := by clear q1 q2 q3 q4 q5 q6; omega
  have s1 : h / 16384 = 0 := by clear q0 q2 q3 q4 q5 q6; omega
  have s2 : h / 8192 = 0 := by clear q0 q1 q3 q4 q5 q6 s0; omega
  have s3 : h / 4096 = 1 := by clear q0 q1 q2 q4 q5 q6 s0 s1; omega
  have s4 : h / 2048 = 3 := by clear q0 q1 q2 q3 q5 q6 s0 s1 s2; omega
  have s5 : h / 1024 = 6 := by clear q0 q1 q2 q3 q4 q6 s0 s1 s2 s3; omega
  have s6 : h / 512 = 12 := by clear q0 q1 q2 q3 q4 q5 s0 s1 s2 s3 s4; omega
  exact s6
 ·intro q; (repeat' apply And.intro) <;> omega
theorem cn7 (h : Nat) : candN 7 h = ⟨7, ((h / 1 % 8 : Nat) : Int), ((h / 8 % 8 : Nat) : Int), ((h / 64 % 8 : Nat) : Int), (0 : Int)⟩ := by
 unfold candN z_cs; simp [z_cs, InsM.put, shp]
theorem cand7 (h : Nat) (hh : h < 65536) : candR 7 h = candN 7 h := by
 rw [cn7]
 unfold candR; rw [tk7 h hh]
 dsimp only
 rw [show 0 * 2 + h / 256 % 2 = h / 256 % 2 from by omega]
 rw [show h / 256 % 2 * 2 + h / 128 % 2 = h / 128 % 4 from by omega]
 rw [show h / 128 % 4 * 2 + h / 64 % 2 = h / 64 % 8 from by omega]
 rw [show 0 * 2 + h / 32 % 2 = h / 32 % 2 from by omega]
 rw [show h / 32 % 2 * 2 + h / 16 % 2 = h / 16 % 4 from by omega]
 rw [show h / 16 % 4 * 2 + h / 8 % 2 = h / 8 % 8 from by omega]
 rw [show 0 * 2 + h / 4 % 2 = h / 4 % 2 from by omega]
 rw [show h / 4 % 2 * 2 + h / 2 % 2 = h / 2 % 4 from by omega]
 rw [show h / 2 % 4 * 2 + h / 1 % 2 = h / 1 % 8 from by omega]
 simp [shp]
 try omega
theorem tk8 (h : Nat) (hh : h < 65536) : takeS 8 h = ⟨0, (((((((true && (48 == 48 + h / 32768 % 2)) && (48 == 48 + h / 16384 % 2)) && (48 == 48 + h / 8192 % 2)) && (49 == 48 + h / 4096 % 2)) && (49 == 48 + h / 2048 % 2)) && (48 == 48 + h / 1024 % 2)) && (49 == 48 + h / 512 % 2)), 1, (((0 * 2 + h / 4 % 2) * 2 + h / 2 % 2) * 2 + h / 1 % 2), (((0 * 2 + h / 32 % 2) * 2 + h / 16 % 2) * 2 + h / 8 % 2), (((0 * 2 + h / 256 % 2) * 2 + h / 128 % 2) * 2 + h / 64 % 2), 0⟩ := by rw [z_dv 8 h (by omega) hh]; rfl
theorem ok8 (h : Nat) (hh : h < 65536) : (takeS 8 h).ok = decide (h / 2 ^ free 8 = (shp 8).bits / 2 ^ free 8) := by
 rw [tk8 h hh, show decide (h / 2 ^ free 8 = (shp 8).bits / 2 ^ free 8) = decide (h / 512 = 13) from rfl, Bool.eq_iff_iff]
 simp only [Bool.and_eq_true, decide_eq_true_eq, beq_iff_eq, true_and]
 constructor
 ·rintro ⟨⟨⟨⟨⟨⟨q0, q1⟩, q2⟩, q3⟩, q4⟩, q5⟩, q6⟩
  have s0 : h / 32768 = 0 := by clear q1 q2 q3 q4 q5 q6; omega
  have s1 : h / 16384 = 0 := by clear q0 q2 q3 q4 q5 q6; omega
  have s2 : h / 8192 = 0 := by clear q0 q1 q3 q4 q5 q6 s0; omega
  have s3 : h / 4096 = 1 := by clear q0 q1 q2 q4 q5 q6 s0 s1; omega
  have s4 : h / 2048 = 3 := by clear q0 q1 q2 q3 q5 q6 s0 s1 s2; omega
  have s5 : h / 1024 = 6 := by clear q0 q1 q2 q3 q4 q6 s0 s1 s2 s3; omega
  have s6 : h / 512 = 13 := by clear q0 q1 q2 q3 q4 q5 s0 s1 s2 s3 s4; omega
  exact s6
 ·intro q; (repeat' apply And.intro) <;> omega
theorem cn8 (h : Nat) : candN 8 h = ⟨8, ((h / 1 % 8 : Nat) : Int), ((h / 8 % 8 : Nat) : Int), ((h / 64 % 8 : Nat) : Int), (0 : Int)⟩ := by
 unfold candN z_cs; simp [z_cs, InsM.put, shp]
theorem cand8 (h : Nat) (hh : h < 65536) : candR 8 h = candN 8 h := by
 rw [cn8]
 unfold candR; rw [tk8 h hh]
 dsimp only
 rw [show 0 * 2 + h / 256 % 2 = h / 256 % 2 from by omega]
 rw [show h / 256 % 2 * 2 + h / 128 % 2 = h / 128 % 4 from by omega]
 rw [show h / 128 % 4 * 2 + h / 64 % 2 = h / 64 % 8 from by omega]
 rw [show 0 * 2 + h / 32 % 2 = h / 32 % 2 from by omega]
 rw [show h / 32 % 2 * 2 + h / 16 % 2 = h / 16 % 4 from by omega]
 rw [show h / 16 % 4 * 2 + h / 8 % 2 = h / 8 % 8 from by omega]
 rw [show 0 * 2 + h / 4 % 2 = h / 4 % 2 from by omega]
 rw [show h / 4 % 2 * 2 + h / 2 % 2 = h / 2 % 4 from by omega]
 rw [show h / 2 % 4 * 2 + h / 1 % 2 = h / 1 % 8 from by omega]
 simp [shp]
 try omega
theorem tk9 (h : Nat) (hh : h < 65536) : takeS 9 h = ⟨0, (((((((true && (48 == 48 + h / 32768 % 2)) && (48 == 48 + h / 16384 % 2)) && (48 == 48 + h / 8192 % 2)) && (49 == 48 + h / 4096 % 2)) && (49 == 48 + h / 2048 % 2)) && (49 == 48 + h / 1024 % 2)) && (48 == 48 + h / 512 % 2)), (((1 * 2) * 2) * 2), (((0 * 2 + h / 4 % 2) * 2 + h / 2 % 2) * 2 + h / 1 % 2), (((0 * 2 + h / 32 % 2) * 2 + h / 16 % 2) * 2 + h / 8 % 2), 0, (((0 * 2 + h / 256 % 2) * 2 + h / 128 % 2) * 2 + h / 64 % 2)⟩ := by rw [z_dv 9 h (by omega) hh]; rfl
theorem ok9 (h : Nat) (hh : h < 65536) : (takeS 9 h).ok = decide (h / 2 ^ free 9 = (shp 9).bits / 2 ^ free 9) := by
 rw [tk9 h hh, show decide (h / 2 ^ free 9 = (shp 9).bits / 2 ^ free 9) = decide (h / 512 = 14) from rfl, Bool.eq_iff_iff]
 simp only [Bool.and_eq_true, decide_eq_true_eq, beq_iff_eq, true_and]
 constructor
 ·rintro ⟨⟨⟨⟨⟨⟨q0, q1⟩, q2⟩, q3⟩, q4⟩, q5⟩, q6⟩
  have s0 : h / 32768 = 0 := by clear q1 q2 q3 q4 q5 q6; omega
  have s1 : h / 16384 = 0 := by clear q0 q2 q3 q4 q5 q6; omega
  have s2 : h / 8192 = 0 := by clear q0 q1 q3 q4 q5 q6 s0; omega
  have s3 : h / 4096 = 1 := by clear q0 q1 q2 q4 q5 q6 s0 s1; omega
  have s4 : h / 2048 = 3 := by clear q0 q1 q2 q3 q5 q6 s0 s1 s2; omega
  have s5 : h / 1024 = 7 := by clear q0 q1 q2 q3 q4 q6 s0 s1 s2 s3; omega
  have s6 : h / 512 = 14 := by clear q0 q1 q2 q3 q4 q5 s0 s1 s2 s3 s4; omega
  exact s6
 ·intro q; (repeat' apply And.intro) <;> omega
theorem cn9 (h : Nat) : candN 9 h = ⟨9, ((h / 1 % 8 : Nat) : Int), ((h / 8 % 8 : Nat) : Int), (0 : Int), ((h / 64 % 8 : Nat) : Int)⟩ := by
 unfold candN z_cs; simp [z_cs, InsM.put, shp]
theorem cand9 (h : Nat) (hh : h < 65536) : candR 9 h = candN 9 h := by
 rw [cn9]
 unfold candR; rw [tk9 h hh]
 dsimp only
 rw [show 0 * 2 + h / 256 % 2 = h / 256 % 2 from by omega]
 rw [show h / 256 % 2 * 2 + h / 128 % 2 = h / 128 % 4 from by omega]
 rw [show h / 128 % 4 * 2 + h / 64 % 2 = h / 64 % 8 from by omega]
 rw [show 0 * 2 + h / 32 % 2 = h / 32 % 2 from by omega]
 rw [show h / 32 % 2 * 2 + h / 16 % 2 = h / 16 % 4 from by omega]
 rw [show h / 16 % 4 * 2 + h / 8 % 2 = h / 8 % 8 from by omega]
 rw [show 0 * 2 + h / 4 % 2 = h / 4 % 2 from by omega]
 rw [show h / 4 % 2 * 2 + h / 2 % 2 = h / 2 % 4 from by omega]
 rw [show h / 2 % 4 * 2 + h / 1 % 2 = h / 1 % 8 from by omega]
 simp [shp]
 try omega
theorem tk10 (h : Nat) (hh : h < 65536) : takeS 10 h = ⟨0, (((((((true && (48 == 48 + h / 32768 % 2)) && (48 == 48 + h / 16384 % 2)) && (48 == 48 + h / 8192 % 2)) && (49 == 48 + h / 4096 % 2)) && (49 == 48 + h / 2048 % 2)) && (49 == 48 + h / 1024 % 2)) && (49 == 48 + h / 512 % 2)), (((1 * 2) * 2) * 2), (((0 * 2 + h / 4 % 2) * 2 + h / 2 % 2) * 2 + h / 1 % 2), (((0 * 2 + h / 32 % 2) * 2 + h / 16 % 2) * 2 + h / 8 % 2), 0, (((0 * 2 + h / 256 % 2) * 2 + h / 128 % 2) * 2 + h / 64 % 2)⟩ := by rw [z_dv 10 h (by omega) hh]; rfl
theorem ok10 (h : Nat) (hh : h < 65536) : (takeS 10 h).ok = decide (h / 2 ^ free 10 = (shp 10).bits / 2 ^ free 10) := by
 rw [tk10 h hh, show decide (h / 2 ^ free 10 = (shp 10).bits / 2 ^ free 10) = decide (h / 512 = 15) from rfl, Bool.eq_iff_iff]
 simp only [Bool.and_eq_true, decide_eq_true_eq, beq_iff_eq, true_and]
 constructor
 ·rintro ⟨⟨⟨⟨⟨⟨q0, q1⟩, q2⟩, q3⟩, q4⟩, q5⟩, q6⟩
  have s0 : h / 32768 = 0 := by clear q1 q2 q3 q4 q5 q6; omega
  have s1 : h / 16384 = 0 := by clear q0 q2 q3 q4 q5 q6; omega
  have s2 : h / 8192 = 0 := by clear q0 q1 q3 q4 q5 q6 s0; omega
  have s3 : h / 4096 = 1 := by clear q0 q1 q2 q4 q5 q6 s0 s1; omega
  have s4 : h / 2048 = 3 := by clear q0 q1 q2 q3 q5 q6 s0 s1 s2; omega
  have s5 : h / 1024 = 7 := by clear q0 q1 q2 q3 q4 q6 s0 s1 s2 s3; omega
  have s6 : h / 512 = 15 := by clear q0 q1 q2 q3 q4 q5 s0 s1 s2 s3 s4; omega
  exact s6
 ·intro q; (repeat' apply And.intro) <;> omega
theorem cn10 (h : Nat) : candN 10 h = ⟨10, ((h / 1 % 8 : Nat) : Int), ((h / 8 % 8 : Nat) : Int), (0 : Int), ((h / 64 % 8 : Nat) : Int)⟩ := by
 unfold candN z_cs; simp [z_cs, InsM.put, shp]
theorem cand10 (h : Nat) (hh : h < 65536) : candR 10 h = candN 10 h := by
 rw [cn10]
 unfold candR; rw [tk10 h hh]
 dsimp only
 rw [show 0 * 2 + h / 256 % 2 = h / 256 % 2 from by omega]
 rw [show h / 256 % 2 * 2 + h / 128 % 2 = h / 128 % 4 from by omega]
 rw [show h / 128 % 4 * 2 + h / 64 % 2 = h / 64 % 8 from by omega]
 rw [show 0 * 2 + h / 32 % 2 = h / 32 % 2 from by omega]
 rw [show h / 32 % 2 * 2 + h / 16 % 2 = h / 16 % 4 from by omega]
 rw [show h / 16 % 4 * 2 + h / 8 % 2 = h / 8 % 8 from by omega]
 rw [show 0 * 2 + h / 4 % 2 = h / 4 % 2 from by omega]
 rw [show h / 4 % 2 * 2 + h / 2 % 2 = h / 2 % 4 from by omega]
 rw [show h / 2 % 4 * 2 + h / 1 % 2 = h / 1 % 8 from by omega]
 simp [shp]
 try omega
theorem tk11 (h : Nat) (hh : h < 65536) : takeS 11 h = ⟨0, ((((((true && (48 == 48 + h / 32768 % 2)) && (49 == 48 + h / 16384 % 2)) && (48 == 48 + h / 8192 % 2)) && (48 == 48 + h / 4096 % 2)) && (48 == 48 + h / 2048 % 2)) && (48 == 48 + h / 1024 % 2)), ((((1 * 2) * 2) * 2) * 2), (((0 * 2 + h / 4 % 2) * 2 + h / 2 % 2) * 2 + h / 1 % 2), 0, (((0 * 2 + h / 32 % 2) * 2 + h / 16 % 2) * 2 + h / 8 % 2), ((((0 * 2 + h / 512 % 2) * 2 + h / 256 % 2) * 2 + h / 128 % 2) * 2 + h / 64 % 2)⟩ := by rw [z_dv 11 h (by omega) hh]; rfl
theorem ok11 (h : Nat) (hh : h < 65536) : (takeS 11 h).ok = decide (h / 2 ^ free 11 = (shp 11).bits / 2 ^ free 11) := by
 rw [tk11 h hh, show decide (h / 2 ^ free 11 = (shp 11).bits / 2 ^ free 11) = decide (h / 1024 = 16) from rfl, Bool.eq_iff_iff]
 simp only [Bool.and_eq_true, decide_eq_true_eq, beq_iff_eq, true_and]
 constructor
 ·rintro ⟨⟨⟨⟨⟨q0, q1⟩, q2⟩, q3⟩, q4⟩, q5⟩
  have s0 : h / 32768 = 0 := by clear q1 q2 q3 q4 q5; omega
  have s1 : h / 16384 = 1 := by clear q0 q2 q3 q4 q5; omega
  have s2 : h / 8192 = 2 := by clear q0 q1 q3 q4 q5 s0; omega
  have s3 : h / 4096 = 4 := by clear q0 q1 q2 q4 q5 s0 s1; omega
  have s4 : h / 2048 = 8 := by clear q0 q1 q2 q3 q5 s0 s1 s2; omega
  have s5 : h / 1024 = 16 := by clear q0 q1 q2 q3 q4 s0 s1 s2 s3; omega
  exact s5
 ·intro q; (repeat' apply And.intro) <;> omega
theorem cn11 (h : Nat) : candN 11 h = ⟨11, ((h / 1 % 8 : Nat) : Int), (0 : Int), ((h / 8 % 8 : Nat) : Int), ((h / 64 % 16 : Nat) : Int)⟩ := by
 unfold candN z_cs; simp [z_cs, InsM.put, shp]
theorem cand11 (h : Nat) (hh : h < 65536) : candR 11 h = candN 11 h := by
 rw [cn11]
 unfold candR; rw [tk11 h hh]
 dsimp only
 rw [show 0 * 2 + h / 512 % 2 = h / 512 % 2 from by omega]
 rw [show h / 512 % 2 * 2 + h / 256 % 2 = h / 256 % 4 from by omega]
 rw [show h / 256 % 4 * 2 + h / 128 % 2 = h / 128 % 8 from by omega]
 rw [show h / 128 % 8 * 2 + h / 64 % 2 = h / 64 % 16 from by omega]
 rw [show 0 * 2 + h / 32 % 2 = h / 32 % 2 from by omega]
 rw [show h / 32 % 2 * 2 + h / 16 % 2 = h / 16 % 4 from by omega]
 rw [show h / 16 % 4 * 2 + h / 8 % 2 = h / 8 % 8 from by omega]
 rw [show 0 * 2 + h / 4 % 2 = h / 4 % 2 from by omega]
 rw [show h / 4 % 2 * 2 + h / 2 % 2 = h / 2 % 4 from by omega]
 rw [show h / 2 % 4 * 2 + h / 1 % 2 = h / 1 % 8 from by omega]
 simp [shp]
 try omega
theorem tk12 (h : Nat) (hh : h < 65536) : takeS 12 h = ⟨0, (((((true && (48 == 48 + h / 32768 % 2)) && (49 == 48 + h / 16384 % 2)) && (49 == 48 + h / 8192 % 2)) && (48 == 48 + h / 4096 % 2)) && (49 == 48 + h / 2048 % 2)), (((((1 * 2) * 2) * 2) * 2) * 2), (((0 * 2 + h / 4 % 2) * 2 + h / 2 % 2) * 2 + h / 1 % 2), (((0 * 2 + h / 32 % 2) * 2 + h / 16 % 2) * 2 + h / 8 % 2), 0, (((((0 * 2 + h / 1024 % 2) * 2 + h / 512 % 2) * 2 + h / 256 % 2) * 2 + h / 128 % 2) * 2 + h / 64 % 2)⟩ := by rw [z_dv 12 h (by omega) hh]; rfl
theorem ok12 (h : Nat) (hh : h < 65536) : (takeS 12 h).ok = decide (h / 2 ^ free 12 = (shp 12).bits / 2 ^ free 12) := by
 rw [tk12 h hh, show decide (h / 2 ^ free 12 = (shp 12).bits / 2 ^ free 12) = decide (h / 2048 = 13) from rfl, Bool.eq_iff_iff]
 simp only [Bool.and_eq_true, decide_eq_true_eq, beq_iff_eq, true_and]
 constructor
 ·rintro ⟨⟨⟨⟨q0, q1⟩, q2⟩, q3⟩, q4⟩
  have s0 : h / 32768 = 0 := by clear q1 q2 q3 q4; omega
  have s1 : h / 16384 = 1 := by clear q0 q2 q3 q4; omega
  have s2 : h / 8192 = 3 := by clear q0 q1 q3 q4 s0; omega
  have s3 : h / 4096 = 6 := by clear q0 q1 q2 q4 s0 s1; omega
  have s4 : h / 2048 = 13 := by clear q0 q1 q2 q3 s0 s1 s2; omega
  exact s4
 ·intro q; (repeat' apply And.intro) <;> omega
theorem cn12 (h : Nat) : candN 12 h = ⟨12, ((h / 1 % 8 : Nat) : Int), ((h / 8 % 8 : Nat) : Int), (0 : Int), ((h / 64 % 32 : Nat) : Int)⟩ := by
 unfold candN z_cs; simp [z_cs, InsM.put, shp]
theorem cand12 (h : Nat) (hh : h < 65536) : candR 12 h = candN 12 h := by
 rw [cn12]
 unfold candR; rw [tk12 h hh]
 dsimp only
 rw [show 0 * 2 + h / 1024 % 2 = h / 1024 % 2 from by omega]
 rw [show h / 1024 % 2 * 2 + h / 512 % 2 = h / 512 % 4 from by omega]
 rw [show h / 512 % 4 * 2 + h / 256 % 2 = h / 256 % 8 from by omega]
 rw [show h / 256 % 8 * 2 + h / 128 % 2 = h / 128 % 16 from by omega]
 rw [show h / 128 % 16 * 2 + h / 64 % 2 = h / 64 % 32 from by omega]
 rw [show 0 * 2 + h / 32 % 2 = h / 32 % 2 from by omega]
 rw [show h / 32 % 2 * 2 + h / 16 % 2 = h / 16 % 4 from by omega]
 rw [show h / 16 % 4 * 2 + h / 8 % 2 = h / 8 % 8 from by omega]
 rw [show 0 * 2 + h / 4 % 2 = h / 4 % 2 from by omega]
 rw [show h / 4 % 2 * 2 + h / 2 % 2 = h / 2 % 4 from by omega]
 rw [show h / 2 % 4 * 2 + h / 1 % 2 = h / 1 % 8 from by omega]
 simp [shp]
 try omega
theorem tk13 (h : Nat) (hh : h < 65536) : takeS 13 h = ⟨0, (((((true && (48 == 48 + h / 32768 % 2)) && (49 == 48 + h / 16384 % 2)) && (49 == 48 + h / 8192 % 2)) && (48 == 48 + h / 4096 % 2)) && (48 == 48 + h / 2048 % 2)), (((((1 * 2) * 2) * 2) * 2) * 2), (((0 * 2 + h / 4 % 2) * 2 + h / 2 % 2) * 2 + h / 1 % 2), (((0 * 2 + h / 32 % 2) * 2 + h / 16 % 2) * 2 + h / 8 % 2), 0, (((((0 * 2 + h / 1024 % 2) * 2 + h / 512 % 2) * 2 + h / 256 % 2) * 2 + h / 128 % 2) * 2 + h / 64 % 2)⟩ := by rw [z_dv 13 h (by omega) hh]; rfl
theorem ok13 (h : Nat) (hh : h < 65536) : (takeS 13 h).ok = decide (h / 2 ^ free 13 = (shp 13).bits / 2 ^ free 13) := by
 rw [tk13 h hh, show decide (h / 2 ^ free 13 = (shp 13).bits / 2 ^ free 13) = decide (h / 2048 = 12) from rfl, Bool.eq_iff_iff]
 simp only [Bool.and_eq_true, decide_eq_true_eq, beq_iff_eq, true_and]
 constructor
 ·rintro ⟨⟨⟨⟨q0, q1⟩, q2⟩, q3⟩, q4⟩
  have s0 : h / 32768 = 0 := by clear q1 q2 q3 q4; omega
  have s1 : h / 16384 = 1 := by clear q0 q2 q3 q4; omega
  have s2 : h / 8192 = 3 := by clear q0 q1 q3 q4 s0; omega
  have s3 : h / 4096 = 6 := by clear q0 q1 q2 q4 s0 s1; omega
  have s4 : h / 2048 = 12 := by clear q0 q1 q2 q3 s0 s1 s2; omega
  exact s4
 ·intro q; (repeat' apply And.intro) <;> omega
theorem cn13 (h : Nat) : candN 13 h = ⟨13, ((h / 1 % 8 : Nat) : Int), ((h / 8 % 8 : Nat) : Int), (0 : Int), ((h / 64 % 32 : Nat) : Int)⟩ := by
 unfold candN z_cs; simp [z_cs, InsM.put, shp]
theorem cand13 (h : Nat) (hh : h < 65536) : candR 13 h = candN 13 h := by
 rw [cn13]
 unfold candR; rw [tk13 h hh]
 dsimp only
 rw [show 0 * 2 + h / 1024 % 2 = h / 1024 % 2 from by omega]
 rw [show h / 1024 % 2 * 2 + h / 512 % 2 = h / 512 % 4 from by omega]
 rw [show h / 512 % 4 * 2 + h / 256 % 2 = h / 256 % 8 from by omega]
 rw [show h / 256 % 8 * 2 + h / 128 % 2 = h / 128 % 16 from by omega]
 rw [show h / 128 % 16 * 2 + h / 64 % 2 = h / 64 % 32 from by omega]
 rw [show 0 * 2 + h / 32 % 2 = h / 32 % 2 from by omega]
 rw [show h / 32 % 2 * 2 + h / 16 % 2 = h / 16 % 4 from by omega]
 rw [show h / 16 % 4 * 2 + h / 8 % 2 = h / 8 % 8 from by omega]
 rw [show 0 * 2 + h / 4 % 2 = h / 4 % 2 from by omega]
 rw [show h / 4 % 2 * 2 + h / 2 % 2 = h / 2 % 4 from by omega]
 rw [show h / 2 % 4 * 2 + h / 1 % 2 = h / 1 % 8 from by omega]
 simp [shp]
 try omega
theorem tk14 (h : Nat) (hh : h < 65536) : takeS 14 h = ⟨0, (((((((true && (48 == 48 + h / 32768 % 2)) && (49 == 48 + h / 16384 % 2)) && (48 == 48 + h / 8192 % 2)) && (49 == 48 + h / 4096 % 2)) && (49 == 48 + h / 2048 % 2)) && (48 == 48 + h / 1024 % 2)) && (48 == 48 + h / 512 % 2)), 1, (((0 * 2 + h / 4 % 2) * 2 + h / 2 % 2) * 2 + h / 1 % 2), (((0 * 2 + h / 32 % 2) * 2 + h / 16 % 2) * 2 + h / 8 % 2), (((0 * 2 + h / 256 % 2) * 2 + h / 128 % 2) * 2 + h / 64 % 2), 0⟩ := by rw [z_dv 14 h (by omega) hh]; rfl
theorem ok14 (h : Nat) (hh : h < 65536) : (takeS 14 h).ok = decide (h / 2 ^ free 14 = (shp 14).bits / 2 ^ free 14) := by
 rw [tk14 h hh, show decide (h / 2 ^ free 14 = (shp 14).bits / 2 ^ free 14) = decide (h / 512 = 44) from rfl, Bool.eq_iff_iff]
 simp only [Bool.and_eq_true, decide_eq_true_eq, beq_iff_eq, true_and]
 constructor
 ·rintro ⟨⟨⟨⟨⟨⟨q0, q1⟩, q2⟩, q3⟩, q4⟩, q5⟩, q6⟩
  have s0 : h / 32768 = 0 := by clear q1 q2 q3 q4 q5 q6; omega
  have s1 : h / 16384 = 1 := by clear q0 q2 q3 q4 q5 q6; omega
  have s2 : h / 8192 = 2 := by clear q0 q1 q3 q4 q5 q6 s0; omega
  have s3 : h / 4096 = 5 := by clear q0 q1 q2 q4 q5 q6 s0 s1; omega
  have s4 : h / 2048 = 11 := by clear q0 q1 q2 q3 q5 q6 s0 s1 s2; omega
  have s5 : h / 1024 = 22 := by clear q0 q1 q2 q3 q4 q6 s0 s1 s2 s3; omega
  have s6 : h / 512 = 44 := by clear q0 q1 q2 q3 q4 q5 s0 s1 s2 s3 s4; omega
  exact s6
 ·intro q; (repeat' apply And.intro) <;> omega
theorem cn14 (h : Nat) : candN 14 h = ⟨14, ((h / 1 % 8 : Nat) : Int), ((h / 8 % 8 : Nat) : Int), ((h / 64 % 8 : Nat) : Int), (0 : Int)⟩ := by
 unfold candN z_cs; simp [z_cs, InsM.put, shp]
theorem cand14 (h : Nat) (hh : h < 65536) : candR 14 h = candN 14 h := by
 rw [cn14]
 unfold candR; rw [tk14 h hh]
 dsimp only
 rw [show 0 * 2 + h / 256 % 2 = h / 256 % 2 from by omega]
 rw [show h / 256 % 2 * 2 + h / 128 % 2 = h / 128 % 4 from by omega]
 rw [show h / 128 % 4 * 2 + h / 64 % 2 = h / 64 % 8 from by omega]
 rw [show 0 * 2 + h / 32 % 2 = h / 32 % 2 from by omega]
 rw [show h / 32 % 2 * 2 + h / 16 % 2 = h / 16 % 4 from by omega]
 rw [show h / 16 % 4 * 2 + h / 8 % 2 = h / 8 % 8 from by omega]
 rw [show 0 * 2 + h / 4 % 2 = h / 4 % 2 from by omega]
 rw [show h / 4 % 2 * 2 + h / 2 % 2 = h / 2 % 4 from by omega]
 rw [show h / 2 % 4 * 2 + h / 1 % 2 = h / 1 % 8 from by omega]
 simp [shp]
 try omega
theorem tk15 (h : Nat) (hh : h < 65536) : takeS 15 h = ⟨0, (((((((true && (48 == 48 + h / 32768 % 2)) && (49 == 48 + h / 16384 % 2)) && (48 == 48 + h / 8192 % 2)) && (49 == 48 + h / 4096 % 2)) && (48 == 48 + h / 2048 % 2)) && (48 == 48 + h / 1024 % 2)) && (48 == 48 + h / 512 % 2)), 1, (((0 * 2 + h / 4 % 2) * 2 + h / 2 % 2) * 2 + h / 1 % 2), (((0 * 2 + h / 32 % 2) * 2 + h / 16 % 2) * 2 + h / 8 % 2), (((0 * 2 + h / 256 % 2) * 2 + h / 128 % 2) * 2 + h / 64 % 2), 0⟩ := by rw [z_dv 15 h (by omega) hh]; rfl
theorem ok15 (h : Nat) (hh : h < 65536) : (takeS 15 h).ok = decide (h / 2 ^ free 15 = (shp 15).bits / 2 ^ free 15) := by
 rw [tk15 h hh, show decide (h / 2 ^ free 15 = (shp 15).bits / 2 ^ free 15) = decide (h / 512 = 40) from rfl, Bool.eq_iff_iff]
 simp only [Bool.and_eq_true, decide_eq_true_eq, beq_iff_eq, true_and]
 constructor
 ·rintro ⟨⟨⟨⟨⟨⟨q0, q1⟩, q2⟩, q3⟩, q4⟩, q5⟩, q6⟩
  have s0 : h / 32768 = 0 := by clear q1 q2 q3 q4 q5 q6; omega
  have s1 : h / 16384 = 1 := by clear q0 q2 q3 q4 q5 q6; omega
  have s2 : h / 8192 = 2 := by clear q0 q1 q3 q4 q5 q6 s0; omega
  have s3 : h / 4096 = 5 := by clear q0 q1 q2 q4 q5 q6 s0 s1; omega
  have s4 : h / 2048 = 10 := by clear q0 q1 q2 q3 q5 q6 s0 s1 s2; omega
  have s5 : h / 1024 = 20 := by clear q0 q1 q2 q3 q4 q6 s0 s1 s2 s3; omega
  have s6 : h / 512 = 40 := by clear q0 q1 q2 q3 q4 q5 s0 s1 s2 s3 s4; omega
  exact s6
 ·intro q; (repeat' apply And.intro) <;> omega
theorem cn15 (h : Nat) : candN 15 h = ⟨15, ((h / 1 % 8 : Nat) : Int), ((h / 8 % 8 : Nat) : Int), ((h / 64 % 8 : Nat) : Int), (0 : Int)⟩ := by
 unfold candN z_cs; simp [z_cs, InsM.put, shp]
theorem cand15 (h : Nat) (hh : h < 65536) : candR 15 h = candN 15 h := by
 rw [cn15]
 unfold candR; rw [tk15 h hh]
 dsimp only
 rw [show 0 * 2 + h / 256 % 2 = h / 256 % 2 from by omega]
 rw [show h / 256 % 2 * 2 + h / 128 % 2 = h / 128 % 4 from by omega]
 rw [show h / 128 % 4 * 2 + h / 64 % 2 = h / 64 % 8 from by omega]
 rw [show 0 * 2 + h / 32 % 2 = h / 32 % 2 from by omega]
 rw [show h / 32 % 2 * 2 + h / 16 % 2 = h / 16 % 4 from by omega]
 rw [show h / 16 % 4 * 2 + h / 8 % 2 = h / 8 % 8 from by omega]
 rw [show 0 * 2 + h / 4 % 2 = h / 4 % 2 from by omega]
 rw [show h / 4 % 2 * 2 + h / 2 % 2 = h / 2 % 4 from by omega]
 rw [show h / 2 % 4 * 2 + h / 1 % 2 = h / 1 % 8 from by omega]
 simp [shp]
 try omega
theorem tk16 (h : Nat) (hh : h < 65536) : takeS 16 h = ⟨0, (((((true && (48 == 48 + h / 32768 % 2)) && (49 == 48 + h / 16384 % 2)) && (48 == 48 + h / 8192 % 2)) && (48 == 48 + h / 4096 % 2)) && (49 == 48 + h / 2048 % 2)), ((((((((1 * 2) * 2) * 2) * 2) * 2) * 2) * 2) * 2), (((0 * 2 + h / 1024 % 2) * 2 + h / 512 % 2) * 2 + h / 256 % 2), 0, 0, ((((((((0 * 2 + h / 128 % 2) * 2 + h / 64 % 2) * 2 + h / 32 % 2) * 2 + h / 16 % 2) * 2 + h / 8 % 2) * 2 + h / 4 % 2) * 2 + h / 2 % 2) * 2 + h / 1 % 2)⟩ := by rw [z_dv 16 h (by omega) hh]; rfl
theorem ok16 (h : Nat) (hh : h < 65536) : (takeS 16 h).ok = decide (h / 2 ^ free 16 = (shp 16).bits / 2 ^ free 16) := by
 rw [tk16 h hh, show decide (h / 2 ^ free 16 = (shp 16).bits / 2 ^ free 16) = decide (h / 2048 = 9) from rfl, Bool.eq_iff_iff]
 simp only [Bool.and_eq_true, decide_eq_true_eq, beq_iff_eq, true_and]
 constructor
 ·rintro ⟨⟨⟨⟨q0, q1⟩, q2⟩, q3⟩, q4⟩
  have s0 : h / 32768 = 0 := by clear q1 q2 q3 q4; omega
  have s1 : h / 16384 = 1 := by clear q0 q2 q3 q4; omega
  have s2 : h / 8192 = 2 := by clear q0 q1 q3 q4 s0; omega
  have s3 : h / 4096 = 4 := by clear q0 q1 q2 q4 s0 s1; omega
  have s4 : h / 2048 = 9 := by clear q0 q1 q2 q3 s0 s1 s2; omega
  exact s4
 ·intro q; (repeat' apply And.intro) <;> omega
theorem cn16 (h : Nat) : candN 16 h = ⟨16, ((h / 256 % 8 : Nat) : Int), (0 : Int), (0 : Int), ((h / 1 % 256 : Nat) : Int)⟩ := by
 unfold candN z_cs; simp [z_cs, InsM.put, shp]
theorem cand16 (h : Nat) (hh : h < 65536) : candR 16 h = candN 16 h := by
 rw [cn16]
 unfold candR; rw [tk16 h hh]
 dsimp only
 rw [show 0 * 2 + h / 1024 % 2 = h / 1024 % 2 from by omega]
 rw [show h / 1024 % 2 * 2 + h / 512 % 2 = h / 512 % 4 from by omega]
 rw [show h / 512 % 4 * 2 + h / 256 % 2 = h / 256 % 8 from by omega]
 rw [show 0 * 2 + h / 128 % 2 = h / 128 % 2 from by omega]
 rw [show h / 128 % 2 * 2 + h / 64 % 2 = h / 64 % 4 from by omega]
 rw [show h / 64 % 4 * 2 + h / 32 % 2 = h / 32 % 8 from by omega]
 rw [show h / 32 % 8 * 2 + h / 16 % 2 = h / 16 % 16 from by omega]
 rw [show h / 16 % 16 * 2 + h / 8 % 2 = h / 8 % 32 from by omega]
 rw [show h / 8 % 32 * 2 + h / 4 % 2 = h / 4 % 64 from by omega]
 rw [show h / 4 % 64 * 2 + h / 2 % 2 = h / 2 % 128 from by omega]
 rw [show h / 2 % 128 * 2 + h / 1 % 2 = h / 1 % 256 from by omega]
 simp [shp]
 try omega
theorem tk17 (h : Nat) (hh : h < 65536) : takeS 17 h = ⟨0, (((((true && (49 == 48 + h / 32768 % 2)) && (49 == 48 + h / 16384 % 2)) && (49 == 48 + h / 8192 % 2)) && (48 == 48 + h / 4096 % 2)) && (48 == 48 + h / 2048 % 2)), (((((((((((1 * 2) * 2) * 2) * 2) * 2) * 2) * 2) * 2) * 2) * 2) * 2), 0, 0, 0, (((((((((((0 * 2 + h / 1024 % 2) * 2 + h / 512 % 2) * 2 + h / 256 % 2) * 2 + h / 128 % 2) * 2 + h / 64 % 2) * 2 + h / 32 % 2) * 2 + h / 16 % 2) * 2 + h / 8 % 2) * 2 + h / 4 % 2) * 2 + h / 2 % 2) * 2 + h / 1 % 2)⟩ := by rw [z_dv 17 h (by omega) hh]; rfl
theorem ok17 (h : Nat) (hh : h < 65536) : (takeS 17 h).ok = decide (h / 2 ^ free 17 = (shp 17).bits / 2 ^ free 17) := by
 rw [tk17 h hh, show decide (h / 2 ^ free 17 = (shp 17).bits / 2 ^ free 17) = decide (h / 2048 = 28) from rfl, Bool.eq_iff_iff]
 simp only [Bool.and_eq_true, decide_eq_true_eq, beq_iff_eq, true_and]
 constructor
 ·rintro ⟨⟨⟨⟨q0, q1⟩, q2⟩, q3⟩, q4⟩
  have s0 : h / 32768 = 1 := by clear q1 q2 q3 q4; omega
  have s1 : h / 16384 = 3 := by clear q0 q2 q3 q4; omega
  have s2 : h / 8192 = 7 := by clear q0 q1 q3 q4 s0; omega
  have s3 : h / 4096 = 14 := by clear q0 q1 q2 q4 s0 s1; omega
  have s4 : h / 2048 = 28 := by clear q0 q1 q2 q3 s0 s1 s2; omega
  exact s4
 ·intro q; (repeat' apply And.intro) <;> omega
theorem cn17 (h : Nat) : candN 17 h = ⟨17, (0 : Int), (0 : Int), (0 : Int), (if ((h / 1 % 2048 : Nat) : Int) > 1023 then ((h / 1 % 2048 : Nat) : Int) - 2048 else ((h / 1 % 2048 : Nat) : Int))⟩ := by
 unfold candN z_cs; simp [z_cs, InsM.put, shp]
theorem cand17 (h : Nat) (hh : h < 65536) : candR 17 h = candN 17 h := by
 rw [cn17]
 unfold candR; rw [tk17 h hh]
 dsimp only
 rw [show 0 * 2 + h / 1024 % 2 = h / 1024 % 2 from by omega]
 rw [show h / 1024 % 2 * 2 + h / 512 % 2 = h / 512 % 4 from by omega]
 rw [show h / 512 % 4 * 2 + h / 256 % 2 = h / 256 % 8 from by omega]
 rw [show h / 256 % 8 * 2 + h / 128 % 2 = h / 128 % 16 from by omega]
 rw [show h / 128 % 16 * 2 + h / 64 % 2 = h / 64 % 32 from by omega]
 rw [show h / 64 % 32 * 2 + h / 32 % 2 = h / 32 % 64 from by omega]
 rw [show h / 32 % 64 * 2 + h / 16 % 2 = h / 16 % 128 from by omega]
 rw [show h / 16 % 128 * 2 + h / 8 % 2 = h / 8 % 256 from by omega]
 rw [show h / 8 % 256 * 2 + h / 4 % 2 = h / 4 % 512 from by omega]
 rw [show h / 4 % 512 * 2 + h / 2 % 2 = h / 2 % 1024 from by omega]
 rw [show h / 2 % 1024 * 2 + h / 1 % 2 = h / 1 % 2048 from by omega]
 simp [shp]
 try omega
theorem tk18 (h : Nat) (hh : h < 65536) : takeS 18 h = ⟨0, ((((true && (49 == 48 + h / 32768 % 2)) && (49 == 48 + h / 16384 % 2)) && (48 == 48 + h / 8192 % 2)) && (49 == 48 + h / 4096 % 2)), ((((((((1 * 2) * 2) * 2) * 2) * 2) * 2) * 2) * 2), ((((0 * 2 + h / 2048 % 2) * 2 + h / 1024 % 2) * 2 + h / 512 % 2) * 2 + h / 256 % 2), 0, 0, ((((((((0 * 2 + h / 128 % 2) * 2 + h / 64 % 2) * 2 + h / 32 % 2) * 2 + h / 16 % 2) * 2 + h / 8 % 2) * 2 + h / 4 % 2) * 2 + h / 2 % 2) * 2 + h / 1 % 2)⟩ := by rw [z_dv 18 h (by omega) hh]; rfl
theorem ok18 (h : Nat) (hh : h < 65536) : (takeS 18 h).ok = decide (h / 2 ^ free 18 = (shp 18).bits / 2 ^ free 18) := by
 rw [tk18 h hh, show decide (h / 2 ^ free 18 = (shp 18).bits / 2 ^ free 18) = decide (h / 4096 = 13) from rfl, Bool.eq_iff_iff]
 simp only [Bool.and_eq_true, decide_eq_true_eq, beq_iff_eq, true_and]
 constructor
 ·rintro ⟨⟨⟨q0, q1⟩, q2⟩, q3⟩
  have s0 : h / 32768 = 1 := by clear q1 q2 q3; omega
  have s1 : h / 16384 = 3 := by clear q0 q2 q3; omega
  have s2 : h / 8192 = 6 := by clear q0 q1 q3 s0; omega
  have s3 : h / 4096 = 13 := by clear q0 q1 q2 s0 s1; omega
  exact s3
 ·intro q; (repeat' apply And.intro) <;> omega
theorem cn18 (h : Nat) : candN 18 h = ⟨18, ((h / 256 % 16 : Nat) : Int), (0 : Int), (0 : Int), (if ((h / 1 % 256 : Nat) : Int) > 127 then ((h / 1 % 256 : Nat) : Int) - 256 else ((h / 1 % 256 : Nat) : Int))⟩ := by
 unfold candN z_cs; simp [z_cs, InsM.put, shp]
theorem cand18 (h : Nat) (hh : h < 65536) : candR 18 h = candN 18 h := by
 rw [cn18]
 unfold candR; rw [tk18 h hh]
 dsimp only
 rw [show 0 * 2 + h / 2048 % 2 = h / 2048 % 2 from by omega]
 rw [show h / 2048 % 2 * 2 + h / 1024 % 2 = h / 1024 % 4 from by omega]
 rw [show h / 1024 % 4 * 2 + h / 512 % 2 = h / 512 % 8 from by omega]
 rw [show h / 512 % 8 * 2 + h / 256 % 2 = h / 256 % 16 from by omega]
 rw [show 0 * 2 + h / 128 % 2 = h / 128 % 2 from by omega]
 rw [show h / 128 % 2 * 2 + h / 64 % 2 = h / 64 % 4 from by omega]
 rw [show h / 64 % 4 * 2 + h / 32 % 2 = h / 32 % 8 from by omega]
 rw [show h / 32 % 8 * 2 + h / 16 % 2 = h / 16 % 16 from by omega]
 rw [show h / 16 % 16 * 2 + h / 8 % 2 = h / 8 % 32 from by omega]
 rw [show h / 8 % 32 * 2 + h / 4 % 2 = h / 4 % 64 from by omega]
 rw [show h / 4 % 64 * 2 + h / 2 % 2 = h / 2 % 128 from by omega]
 rw [show h / 2 % 128 * 2 + h / 1 % 2 = h / 1 % 256 from by omega]
 simp [shp]
 try omega
theorem tk19 (h : Nat) (hh : h < 65536) : takeS 19 h = ⟨0, ((((((((((((((((true && (49 == 48 + h / 32768 % 2)) && (48 == 48 + h / 16384 % 2)) && (49 == 48 + h / 8192 % 2)) && (49 == 48 + h / 4096 % 2)) && (49 == 48 + h / 2048 % 2)) && (49 == 48 + h / 1024 % 2)) && (49 == 48 + h / 512 % 2)) && (49 == 48 + h / 256 % 2)) && (48 == 48 + h / 128 % 2)) && (48 == 48 + h / 64 % 2)) && (48 == 48 + h / 32 % 2)) && (48 == 48 + h / 16 % 2)) && (48 == 48 + h / 8 % 2)) && (48 == 48 + h / 4 % 2)) && (48 == 48 + h / 2 % 2)) && (48 == 48 + h / 1 % 2)), 1, 0, 0, 0, 0⟩ := by rw [z_dv 19 h (by omega) hh]; rfl
theorem ok19 (h : Nat) (hh : h < 65536) : (takeS 19 h).ok = decide (h / 2 ^ free 19 = (shp 19).bits / 2 ^ free 19) := by
 rw [tk19 h hh, show decide (h / 2 ^ free 19 = (shp 19).bits / 2 ^ free 19) = decide (h / 1 = 48896) from rfl, Bool.eq_iff_iff]
 simp only [Bool.and_eq_true, decide_eq_true_eq, beq_iff_eq, true_and]
 constructor
 ·rintro ⟨⟨⟨⟨⟨⟨⟨⟨⟨⟨⟨⟨⟨⟨⟨q0, q1⟩, q2⟩, q3⟩, q4⟩, q5⟩, q6⟩, q7⟩, q8⟩, q9⟩, q10⟩, q11⟩, q12⟩, q13⟩, q14⟩, q15⟩
  have s0 : h / 32768 = 1 := by clear q1 q2 q3 q4 q5 q6 q7 q8 q9 q10 q11 q12 q13 q14 q15; omega
  have s1 : h / 16384 = 2 := by clear q0 q2 q3 q4 q5 q6 q7 q8 q9 q10 q11 q12 q13 q14 q15; omega
  have s2 : h / 8192 = 5 := by clear q0 q1 q3 q4 q5 q6 q7 q8 q9 q10 q11 q12 q13 q14 q15 s0; omega
  have s3 : h / 4096 = 11 := by clear q0 q1 q2 q4 q5 q6 q7 q8 q9 q10 q11 q12 q13 q14 q15 s0 s1; omega
  have s4 : h / 2048 = 23 := by clear q0 q1 q2 q3 q5 q6 q7 q8 q9 q10 q11 q12 q13 q14 q15 s0 s1 s2; omega
  have s5 : h / 1024 = 47 := by clear q0 q1 q2 q3 q4 q6 q7 q8 q9 q10 q11 q12 q13 q14 q15 s0 s1 s2 s3; omega
  have s6 : h / 512 = 95 := by clear q0 q1 q2 q3 q4 q5 q7 q8 q9 q10 q11 q12 q13 q14 q15 s0 s1 s2 s3 s4; omega
  have s7 : h / 256 = 191 := by clear q0 q1 q2 q3 q4 q5 q6 q8 q9 q10 q11 q12 q13 q14 q15 s0 s1 s2 s3 s4 s5; omega
  have s8 : h / 128 = 382 := by clear q0 q1 q2 q3 q4 q5 q6 q7 q9 q10 q11 q12 q13 q14 q15 s0 s1 s2 s3 s4 s5 s6; omega
  have s9 : h / 64 = 764 := by clear q0 q1 q2 q3 q4 q5 q6 q7 q8 q10 q11 q12 q13 q14 q15 s0 s1 s2 s3 s4 s5 s6 s7; omega
  have s10 : h / 32 = 1528 := by clear q0 q1 q2 q3 q4 q5 q6 q7 q8 q9 q11 q12 q13 q14 q15 s0 s1 s2 s3 s4 s5 s6 s7 s8; omega
  have s11 : h / 16 = 3056 := by clear q0 q1 q2 q3 q4 q5 q6 q7 q8 q9 q10 q12 q13 q14 q15 s0 s1 s2 s3 s4 s5 s6 s7 s8 s9; omega
  have s12 : h / 8 = 6112 := by clear q0 q1 q2 q3 q4 q5 q6 q7 q8 q9 q10 q11 q13 q14 q15 s0 s1 s2 s3 s4 s5 s6 s7 s8 s9 s10; omega
  have s13 : h / 4 = 12224 := by clear q0 q1 q2 q3 q4 q5 q6 q7 q8 q9 q10 q11 q12 q14 q15 s0 s1 s2 s3 s4 s5 s6 s7 s8 s9 s10 s11; omega
  have s14 : h / 2 = 24448 := by clear q0 q1 q2 q3 q4 q5 q6 q7 q8 q9 q10 q11 q12 q13 q15 s0 s1 s2 s3 s4 s5 s6 s7 s8 s9 s10 s11 s12; omega
  have s15 : h / 1 = 48896 := by clear q0 q1 q2 q3 q4 q5 q6 q7 q8 q9 q10 q11 q12 q13 q14 s0 s1 s2 s3 s4 s5 s6 s7 s8 s9 s10 s11 s12 s13; omega
  exact s15
 ·intro q; have e : h = 48896 := by omega
  subst e; decide
theorem cn19 (h : Nat) : candN 19 h = ⟨19, (0 : Int), (0 : Int), (0 : Int), (0 : Int)⟩ := by
 unfold candN z_cs; simp [z_cs, InsM.put, shp]
theorem cand19 (h : Nat) (hh : h < 65536) : candR 19 h = candN 19 h := by
 rw [cn19]
 unfold candR; rw [tk19 h hh]
 dsimp only
 simp [shp]
 try omega
theorem tk20 (h : Nat) (hh : h < 65536) : takeS 20 h = ⟨0, ((((((((true && (49 == 48 + h / 32768 % 2)) && (48 == 48 + h / 16384 % 2)) && (49 == 48 + h / 8192 % 2)) && (49 == 48 + h / 4096 % 2)) && (49 == 48 + h / 2048 % 2)) && (49 == 48 + h / 1024 % 2)) && (49 == 48 + h / 512 % 2)) && (48 == 48 + h / 256 % 2)), ((((((((1 * 2) * 2) * 2) * 2) * 2) * 2) * 2) * 2), 0, 0, 0, ((((((((0 * 2 + h / 128 % 2) * 2 + h / 64 % 2) * 2 + h / 32 % 2) * 2 + h / 16 % 2) * 2 + h / 8 % 2) * 2 + h / 4 % 2) * 2 + h / 2 % 2) * 2 + h / 1 % 2)⟩ := by rw [z_dv 20 h (by omega) hh]; rfl
theorem ok20 (h : Nat) (hh : h < 65536) : (takeS 20 h).ok = decide (h / 2 ^ free 20 = (shp 20).bits / 2 ^ free 20) := by
 rw [tk20 h hh, show decide (h / 2 ^ free 20 = (shp 20).bits / 2 ^ free 20) = decide (h / 256 = 190) from rfl, Bool.eq_iff_iff]
 simp only [Bool.and_eq_true, decide_eq_true_eq, beq_iff_eq, true_and]
 constructor
 ·rintro ⟨⟨⟨⟨⟨⟨⟨q0, q1⟩, q2⟩, q3⟩, q4⟩, q5⟩, q6⟩, q7⟩
  have s0 : h / 32768 = 1 := by clear q1 q2 q3 q4 q5 q6 q7; omega
  have s1 : h / 16384 = 2 := by clear q0 q2 q3 q4 q5 q6 q7; omega
  have s2 : h / 8192 = 5 := by clear q0 q1 q3 q4 q5 q6 q7 s0; omega
  have s3 : h / 4096 = 11 := by clear q0 q1 q2 q4 q5 q6 q7 s0 s1; omega
  have s4 : h / 2048 = 23 := by clear q0 q1 q2 q3 q5 q6 q7 s0 s1 s2; omega
  have s5 : h / 1024 = 47 := by clear q0 q1 q2 q3 q4 q6 q7 s0 s1 s2 s3; omega
  have s6 : h / 512 = 95 := by clear q0 q1 q2 q3 q4 q5 q7 s0 s1 s2 s3 s4; omega
  have s7 : h / 256 = 190 := by clear q0 q1 q2 q3 q4 q5 q6 s0 s1 s2 s3 s4 s5; omega
  exact s7
 ·intro q; (repeat' apply And.intro) <;> omega
theorem cn20 (h : Nat) : candN 20 h = ⟨20, (0 : Int), (0 : Int), (0 : Int), ((h / 1 % 256 : Nat) : Int)⟩ := by
 unfold candN z_cs; simp [z_cs, InsM.put, shp]
theorem cand20 (h : Nat) (hh : h < 65536) : candR 20 h = candN 20 h := by
 rw [cn20]
 unfold candR; rw [tk20 h hh]
 dsimp only
 rw [show 0 * 2 + h / 128 % 2 = h / 128 % 2 from by omega]
 rw [show h / 128 % 2 * 2 + h / 64 % 2 = h / 64 % 4 from by omega]
 rw [show h / 64 % 4 * 2 + h / 32 % 2 = h / 32 % 8 from by omega]
 rw [show h / 32 % 8 * 2 + h / 16 % 2 = h / 16 % 16 from by omega]
 rw [show h / 16 % 16 * 2 + h / 8 % 2 = h / 8 % 32 from by omega]
 rw [show h / 8 % 32 * 2 + h / 4 % 2 = h / 4 % 64 from by omega]
 rw [show h / 4 % 64 * 2 + h / 2 % 2 = h / 2 % 128 from by omega]
 rw [show h / 2 % 128 * 2 + h / 1 % 2 = h / 1 % 256 from by omega]
 simp [shp]
 try omega
theorem z_lr (op : Nat) (hop : op ≤ 20) (h : Nat) (hh : h < 65536) : (takeS op h).ok = decide (h / 2 ^ free op = (shp op).bits / 2 ^ free op) ∧ candR op h = candN op h :=
 cases21 (P := fun op => (takeS op h).ok = decide (h / 2 ^ free op = (shp op).bits / 2 ^ free op) ∧ candR op h = candN op h) op hop ⟨ok0 h hh, cand0 h hh⟩ ⟨ok1 h hh, cand1 h hh⟩ ⟨ok2 h hh, cand2 h hh⟩ ⟨ok3 h hh, cand3 h hh⟩ ⟨ok4 h hh, cand4 h hh⟩ ⟨ok5 h hh, cand5 h hh⟩ ⟨ok6 h hh, cand6 h hh⟩ ⟨ok7 h hh, cand7 h hh⟩ ⟨ok8 h hh, cand8 h hh⟩ ⟨ok9 h hh, cand9 h hh⟩ ⟨ok10 h hh, cand10 h hh⟩ ⟨ok11 h hh, cand11 h hh⟩ ⟨ok12 h hh, cand12 h hh⟩ ⟨ok13 h hh, cand13 h hh⟩ ⟨ok14 h hh, cand14 h hh⟩ ⟨ok15 h hh, cand15 h hh⟩ ⟨ok16 h hh, cand16 h hh⟩ ⟨ok17 h hh, cand17 h hh⟩ ⟨ok18 h hh, cand18 h hh⟩ ⟨ok19 h hh, cand19 h hh⟩ ⟨ok20 h hh, cand20 h hh⟩
end Go.Abs.Th
end
section
namespace Go.Abs.Th
theorem z_gl (i : InsM) : i.can = true ↔ (0 ≤ i.op ∧ i.op ≤ 20) ∧ (shp i.op.toNat).low ≤ i.imm ∧ i.imm ≤ (shp i.op.toNat).high ∧ 0 ≤ i.d ∧ i.d ≤ maxD i.op.toNat ∧ 0 ≤ i.n ∧ i.n ≤ maxN i.op.toNat ∧ 0 ≤ i.m ∧ i.m ≤ maxM i.op.toNat := by
 simp [InsM.can, and_assoc]
theorem z_aw (k : Nat) (hk : k ≤ 20) (d n m imm : Int) : (InsM.mk k d n m imm).can = true ↔ (shp k).low ≤ imm ∧ imm ≤ (shp k).high ∧ 0 ≤ d ∧ d ≤ maxD k ∧ 0 ≤ n ∧ n ≤ maxN k ∧ 0 ≤ m ∧ m ≤ maxM k := by
 rw [z_gl]; simp only [Int.toNat_natCast]
 constructor
 ·intro h; exact h.2
 ·intro h; exact ⟨⟨by omega, by omega⟩, h⟩
theorem back0 (h : Nat) (hh : h / 2 ^ free 0 = (shp 0).bits / 2 ^ free 0) (hc : (candN 0 h).can = true) : putN (candN 0 h) = h := by
 rw [cn0] at hc ⊢
 rw [show ∀ a b c d : Int, (InsM.mk 0 a b c d).can = true ↔ _ from fun a b c d => z_aw 0 (by omega) a b c d] at hc
 simp [shp, maxD, maxN, maxM, hasD, hasN, hasM] at hc
 simp [free, shp] at hh
 simp [putN, putGo, shp, InsM.get]
 try omega
theorem forth0 (d n m imm : Int) (hc : (InsM.mk 0 d n m imm).can = true) : putN ⟨0, d, n, m, imm⟩ / 2 ^ free 0 = (shp 0).bits / 2 ^ free 0 ∧ candN 0 (putN ⟨0, d, n, m, imm⟩) = ⟨0, d, n, m, imm⟩ ∧ putN ⟨0, d, n, m, imm⟩ < 65536 := by
 rw [show ∀ a b c d : Int, (InsM.mk 0 a b c d).can = true ↔ _ from fun a b c d => z_aw 0 (by omega) a b c d] at hc
 simp [shp, maxD, maxN, maxM, hasD, hasN, hasM] at hc
 rw [cn0]
 simp [putN, putGo, shp, InsM.get, free]
 try omega
theorem back1 (h : Nat) (hh : h / 2 ^ free 1 = (shp 1).bits / 2 ^ free 1) (hc : (candN 1 h).can = true) : putN (candN 1 h) = h := by
 rw [cn1] at hc ⊢
 rw [show ∀ a b c d : Int, (InsM.mk 1 a b c d).can = true ↔ _ from fun a b c d => z_aw 1 (by omega) a b c d] at hc
 simp [shp, maxD, maxN, maxM, hasD, hasN, hasM] at hc
 simp [free, shp] at hh
 simp [putN, putGo, shp, InsM.get]
 try omega
theorem forth1 (d n m imm : Int) (hc : (InsM.mk 1 d n m imm).can = true) : putN ⟨1, d, n, m, imm⟩ / 2 ^ free 1 = (shp 1).bits / 2 ^ free 1 ∧ candN 1 (putN ⟨1, d, n, m, imm⟩) = ⟨1, d, n, m, imm⟩ ∧ putN ⟨1, d, n, m, imm⟩ < 65536 := by
 rw [show ∀ a b c d : Int, (InsM.mk 1 a b c d).can = true ↔ _ from fun a b c d => z_aw 1 (by omega) a b c d] at hc
 simp [shp, maxD, maxN, maxM, hasD, hasN, hasM] at hc
 rw [cn1]
 simp [putN, putGo, shp, InsM.get, free]
 try omega
theorem back2 (h : Nat) (hh : h / 2 ^ free 2 = (shp 2).bits / 2 ^ free 2) (hc : (candN 2 h).can = true) : putN (candN 2 h) = h := by
 rw [cn2] at hc ⊢
 rw [show ∀ a b c d : Int, (InsM.mk 2 a b c d).can = true ↔ _ from fun a b c d => z_aw 2 (by omega) a b c d] at hc
 simp [shp, maxD, maxN, maxM, hasD, hasN, hasM] at hc
 simp [free, shp] at hh
 simp [putN, putGo, shp, InsM.get]
 try omega
theorem forth2 (d n m imm : Int) (hc : (InsM.mk 2 d n m imm).can = true) : putN ⟨2, d, n, m, imm⟩ / 2 ^ free 2 = (shp 2).bits / 2 ^ free 2 ∧ candN 2 (putN ⟨2, d, n, m, imm⟩) = ⟨2, d, n, m, imm⟩ ∧ putN ⟨2, d, n, m, imm⟩ < 65536 := by
 rw [show ∀ a b c d : Int, (InsM.mk 2 a b c d).can = true ↔ _ from fun a b c d => z_aw 2 (by omega) a b c d] at hc
 simp [shp, maxD, maxN, maxM, hasD, hasN, hasM] at hc
 rw [cn2]
 simp [putN, putGo, shp, InsM.get, free]
 try omega
theorem back3 (h : Nat) (hh : h / 2 ^ free 3 = (shp 3).bits / 2 ^ free 3) (hc : (candN 3 h).can = true) : putN (candN 3 h) = h := by
 rw [cn3] at hc ⊢
 rw [show ∀ a b c d : Int, (InsM.mk 3 a b c d).can = true ↔ _ from fun a b c d => z_aw 3 (by omega) a b c d] at hc
 simp [shp, maxD, maxN, maxM, hasD, hasN, hasM] at hc
 simp [free, shp] at hh
 simp [putN, putGo, shp, InsM.get]
 try omega
theorem forth3 (d n m imm : Int) (hc : (InsM.mk 3 d n m imm).can = true) : putN ⟨3, d, n, m, imm⟩ / 2 ^ free 3 = (shp 3).bits / 2 ^ free 3 ∧ candN 3 (putN ⟨3, d, n, m, imm⟩) = ⟨3, d, n, m, imm⟩ ∧ putN ⟨3, d, n, m, imm⟩ < 65536 := by
 rw [show ∀ a b c d : Int, (InsM.mk 3 a b c d).can = true ↔ _ from fun a b c d => z_aw 3 (by omega) a b c d] at hc
 simp [shp, maxD, maxN, maxM, hasD, hasN, hasM] at hc
 rw [cn3]
 simp [putN, putGo, shp, InsM.get, free]
 try omega
theorem back4 (h : Nat) (hh : h / 2 ^ free 4 = (shp 4).bits / 2 ^ free 4) (hc : (candN 4 h).can = true) : putN (candN 4 h) = h := by
 rw [cn4] at hc ⊢
 rw [show ∀ a b c d : Int, (InsM.mk 4 a b c d).can = true ↔ _ from fun a b c d => z_aw 4 (by omega) a b c d] at hc
 simp [shp, maxD, maxN, maxM, hasD, hasN, hasM] at hc
 simp [free, shp] at hh
 simp [putN, putGo, shp, InsM.get]
 try omega
theorem forth4 (d n m imm : Int) (hc : (InsM.mk 4 d n m imm).can = true) : putN ⟨4, d, n, m, imm⟩ / 2 ^ free 4 = (shp 4).bits / 2 ^ free 4 ∧ candN 4 (putN ⟨4, d, n, m, imm⟩) = ⟨4, d, n, m, imm⟩ ∧ putN ⟨4, d, n, m, imm⟩ < 65536 := by
 rw [show ∀ a b c d : Int, (InsM.mk 4 a b c d).can = true ↔ _ from fun a b c d => z_aw 4 (by omega) a b c d] at hc
 simp [shp, maxD, maxN, maxM, hasD, hasN, hasM] at hc
 rw [cn4]
 simp [putN, putGo, shp, InsM.get, free]
 try omega
theorem back5 (h : Nat) (hh : h / 2 ^ free 5 = (shp 5).bits / 2 ^ free 5) (hc : (candN 5 h).can = true) : putN (candN 5 h) = h := by
 rw [cn5] at hc ⊢
 rw [show ∀ a b c d : Int, (InsM.mk 5 a b c d).can = true ↔ _ from fun a b c d => z_aw 5 (by omega) a b c d] at hc
 simp [shp, maxD, maxN, maxM, hasD, hasN, hasM] at hc
 simp [free, shp] at hh
 simp [putN, putGo, shp, InsM.get]
 try omega
theorem forth5 (d n m imm : Int) (hc : (InsM.mk 5 d n m imm).can = true) : putN ⟨5, d, n, m, imm⟩ / 2 ^ free 5 = (shp 5).bits / 2 ^ free 5 ∧ candN 5 (putN ⟨5, d, n, m, imm⟩) = ⟨5, d, n, m, imm⟩ ∧ putN ⟨5, d, n, m, imm⟩ < 65536 := by
 rw [show ∀ a b c d : Int, (InsM.mk 5 a b c d).can = true ↔ _ from fun a b c d => z_aw 5 (by omega) a b c d] at hc
 simp [shp, maxD, maxN, maxM, hasD, hasN, hasM] at hc
 rw [cn5]
 simp [putN, putGo, shp, InsM.get, free]
 try omega
theorem back6 (h : Nat) (hh : h / 2 ^ free 6 = (shp 6).bits / 2 ^ free 6) (hc : (candN 6 h).can = true) : putN (candN 6 h) = h := by
 rw [cn6] at hc ⊢
 rw [show ∀ a b c d : Int, (InsM.mk 6 a b c d).can = true ↔ _ from fun a b c d => z_aw 6 (by omega) a b c d] at hc
 simp [shp, maxD, maxN, maxM, hasD, hasN, hasM] at hc
 simp [free, shp] at hh
 simp [putN, putGo, shp, InsM.get]
 try omega
theorem forth6 (d n m imm : Int) (hc : (InsM.mk 6 d n m imm).can = true) : putN ⟨6, d, n, m, imm⟩ / 2 ^ free 6 = (shp 6).bits / 2 ^ free 6 ∧ candN 6 (putN ⟨6, d, n, m, imm⟩) = ⟨6, d, n, m, imm⟩ ∧ putN ⟨6, d, n, m, imm⟩ < 65536 := by
 rw [show ∀ a b c d : Int, (InsM.mk 6 a b c d).can = true ↔ _ from fun a b c d => z_aw 6 (by omega) a b c d] at hc
 simp [shp, maxD, maxN, maxM, hasD, hasN, hasM] at hc
 rw [cn6]
 simp [putN, putGo, shp, InsM.get, free]
 try omega
theorem back7 (h : Nat) (hh : h / 2 ^ free 7 = (shp 7).bits / 2 ^ free 7) (hc : (candN 7 h).can = true) : putN (candN 7 h) = h := by
 rw [cn7] at hc ⊢
 rw [show ∀ a b c d : Int, (InsM.mk 7 a b c d).can = true ↔ _ from fun a b c d => z_aw 7 (by omega) a b c d] at hc
 simp [shp, maxD, maxN, maxM, hasD, hasN, hasM] at hc
 simp [free, shp] at hh
 simp [putN, putGo, shp, InsM.get]
 try omega
theorem forth7 (d n m imm : Int) (hc : (InsM.mk 7 d n m imm).can = true) : putN ⟨7, d, n, m, imm⟩ / 2 ^ free 7 = (shp 7).bits / 2 ^ free 7 ∧ candN 7 (putN ⟨7, d, n, m, imm⟩) = ⟨7, d, n, m, imm⟩ ∧ putN ⟨7, d, n, m, imm⟩ < 65536 := by
 rw [show ∀ a b c d : Int, (InsM.mk 7 a b c d).can = true ↔ _ from fun a b c d => z_aw 7 (by omega) a b c d] at hc
 simp [shp, maxD, maxN, maxM, hasD, hasN, hasM] at hc
 rw [cn7]
 simp [putN, putGo, shp, InsM.get, free]
 try omega
theorem back8 (h : Nat) (hh : h / 2 ^ free 8 = (shp 8).bits / 2 ^ free 8) (hc : (candN 8 h).can = true) : putN (candN 8 h) = h := by
 rw [cn8] at hc ⊢
 rw [show ∀ a b c d : Int, (InsM.mk 8 a b c d).can = true ↔ _ from fun a b c d => z_aw 8 (by omega) a b c d] at hc
 simp [shp, maxD, maxN, maxM, hasD, hasN, hasM] at hc
 simp [free, shp] at hh
 simp [putN, putGo, shp, InsM.get]
 try omega
theorem forth8 (d n m imm : Int) (hc : (InsM.mk 8 d n m imm).can = true) : putN ⟨8, d, n, m, imm⟩ / 2 ^ free 8 = (shp 8).bits / 2 ^ free 8 ∧ candN 8 (putN ⟨8, d, n, m, imm⟩) = ⟨8, d, n, m, imm⟩ ∧ putN ⟨8, d, n, m, imm⟩ < 65536 := by
 rw [show ∀ a b c d : Int, (InsM.mk 8 a b c d).can = true ↔ _ from fun a b c d => z_aw 8 (by omega) a b c d] at hc
 simp [shp, maxD, maxN, maxM, hasD, hasN, hasM] at hc
 rw [cn8]
 simp [putN, putGo, shp, InsM.get, free]
 try omega
theorem back9 (h : Nat) (hh : h / 2 ^ free 9 = (shp 9).bits / 2 ^ free 9) (hc : (candN 9 h).can = true) : putN (candN 9 h) = h := by
 rw [cn9] at hc ⊢
 rw [show ∀ a b c d : Int, (InsM.mk 9 a b c d).can = true ↔ _ from fun a b c d => z_aw 9 (by omega) a b c d] at hc
 simp [shp, maxD, maxN, maxM, hasD, hasN, hasM] at hc
 simp [free, shp] at hh
 simp [putN, putGo, shp, InsM.get]
 try omega
theorem forth9 (d n m imm : Int) (hc : (InsM.mk 9 d n m imm).can = true) : putN ⟨9, d, n, m, imm⟩ / 2 ^ free 9 = (shp 9).bits / 2 ^ free 9 ∧ candN 9 (putN ⟨9, d, n, m, imm⟩) = ⟨9, d, n, m, imm⟩ ∧ putN ⟨9, d, n, m, imm⟩ < 65536 := by
 rw [show ∀ a b c d : Int, (InsM.mk 9 a b c d).can = true ↔ _ from fun a b c d => z_aw 9 (by omega) a b c d] at hc
 simp [shp, maxD, maxN, maxM, hasD, hasN, hasM] at hc
 rw [cn9]
 simp [putN, putGo, shp, InsM.get, free]
 try omega
theorem back10 (h : Nat) (hh : h / 2 ^ free 10 = (shp 10).bits / 2 ^ free 10) (hc : (candN 10 h).can = true) : putN (candN 10 h) = h := by
 rw [cn10] at hc ⊢
 rw [show ∀ a b c d : Int, (InsM.mk 10 a b c d).can = true ↔ _ from fun a b c d => z_aw 10 (by omega) a b c d] at hc
 simp [shp, maxD, maxN, maxM, hasD, hasN, hasM] at hc
 simp [free, shp] at hh
 simp [putN, putGo, shp, InsM.get]
 try omega
theorem forth10 (d n m imm : Int) (hc : (InsM.mk 10 d n m imm).can = true) : putN ⟨10, d, n, m, imm⟩ / 2 ^ free 10 = (shp 10).bits / 2 ^ free 10 ∧ candN 10 (putN ⟨10, d, n, m, imm⟩) = ⟨10, d, n, m, imm⟩ ∧ putN ⟨10, d, n, m, imm⟩ < 65536 := by
 rw [show ∀ a b c d : Int, (InsM.mk 10 a b c d).can = true ↔ _ from fun a b c d => z_aw 10 (by omega) a b c d] at hc
 simp [shp, maxD, maxN, maxM, hasD, hasN, hasM] at hc
 rw [cn10]
 simp [putN, putGo, shp, InsM.get, free]
 try omega
theorem back11 (h : Nat) (hh : h / 2 ^ free 11 = (shp 11).bits / 2 ^ free 11) (hc : (candN 11 h).can = true) : putN (candN 11 h) = h := by
 rw [cn11] at hc ⊢
 rw [show ∀ a b c d : Int, (InsM.mk 11 a b c d).can = true ↔ _ from fun a b c d => z_aw 11 (by omega) a b c d] at hc
 simp [shp, maxD, maxN, maxM, hasD, hasN, hasM] at hc
 simp [free, shp] at hh
 simp [putN, putGo, shp, InsM.get]
 try omega
theorem forth11 (d n m imm : Int) (hc : (InsM.mk 11 d n m imm).can = true) : putN ⟨11, d, n, m, imm⟩ / 2 ^ free 11 = (shp 11).bits / 2 ^ free 11 ∧ candN 11 (putN ⟨11, d, n, m, imm⟩) = ⟨11, d, n, m, imm⟩ ∧ putN ⟨11, d, n, m, imm⟩ < 65536 := by
 rw [show ∀ a b c d : Int, (InsM.mk 11 a b c d).can = true ↔ _ from fun a b c d => z_aw 11 (by omega) a b c d] at hc
 simp [shp, maxD, maxN, maxM, hasD, hasN, hasM] at hc
 rw [cn11]
 simp [putN, putGo, shp, InsM.get, free]
 try omega
theorem back12 (h : Nat) (hh : h / 2 ^ free 12 = (shp 12).bits / 2 ^ free 12) (hc : (candN 12 h).can = true) : putN (candN 12 h) = h := by
 rw [cn12] at hc ⊢
 rw [show ∀ a b c d : Int, (InsM.mk 12 a b c d).can = true ↔ _ from fun a b c d => z_aw 12 (by omega) a b c d] at hc
 simp [shp, maxD, maxN, maxM, hasD, hasN, hasM] at hc
 simp [free, shp] at hh
 simp [putN, putGo, shp, InsM.get]
 try omega
theorem forth12 (d n m imm : Int) (hc : (InsM.mk 12 d n m imm).can = true) : putN ⟨12, d, n, m, imm⟩ / 2 ^ free 12 = (shp 12).bits / 2 ^ free 12 ∧ candN 12 (putN ⟨12, d, n, m, imm⟩) = ⟨12, d, n, m, imm⟩ ∧ putN ⟨12, d, n, m, imm⟩ < 65536 := by
 rw [show ∀ a b c d : Int, (InsM.mk 12 a b c d).can = true ↔ _ from fun a b c d => z_aw 12 (by omega) a b c d] at hc
 simp [shp, maxD, maxN, maxM, hasD, hasN, hasM] at hc
 rw [cn12]
 simp [putN, putGo, shp, InsM.get, free]
 try omega
theorem back13 (h : Nat) (hh : h / 2 ^ free 13 = (shp 13).bits / 2 ^ free 13) (hc : (candN 13 h).can = true) : putN (candN 13 h) = h := by
 rw [cn13] at hc ⊢
 rw [show ∀ a b c d : Int, (InsM.mk 13 a b c d).can = true ↔ _ from fun a b c d => z_aw 13 (by omega) a b c d] at hc
 simp [shp, maxD, maxN, maxM, hasD, hasN, hasM] at hc
 simp [free, shp] at hh
 simp [putN, putGo, shp, InsM.get]
 try omega
theorem forth13 (d n m imm : Int) (hc : (InsM.mk 13 d n m imm).can = true) : putN ⟨13, d, n, m, imm⟩ / 2 ^ free 13 = (shp 13).bits / 2 ^ free 13 ∧ candN 13 (putN ⟨13, d, n, m, imm⟩) = ⟨13, d, n, m, imm⟩ ∧ putN ⟨13, d, n, m, imm⟩ < 65536 := by
 rw [show ∀ a b c d : Int, (InsM.mk 13 a b c d).can = true ↔ _ from fun a b c d => z_aw 13 (by omega) a b c d] at hc
 simp [shp, maxD, maxN, maxM, hasD, hasN, hasM] at hc
 rw [cn13]
 simp [putN, putGo, shp, InsM.get, free]
 try omega
theorem back14 (h : Nat) (hh : h / 2 ^ free 14 = (shp 14).bits / 2 ^ free 14) (hc : (candN 14 h).can = true) : putN (candN 14 h) = h := by
 rw [cn14] at hc ⊢
 rw [show ∀ a b c d : Int, (InsM.mk 14 a b c d).can = true ↔ _ from fun a b c d => z_aw 14 (by omega) a b c d] at hc
 simp [shp, maxD, maxN, maxM, hasD, hasN, hasM] at hc
 simp [free, shp] at hh
 simp [putN, putGo, shp, InsM.get]
 try omega
theorem forth14 (d n m imm : Int) (hc : (InsM.mk 14 d n m imm).can = true) : putN ⟨14, d, n, m, imm⟩ / 2 ^ free 14 = (shp 14).bits / 2 ^ free 14 ∧ candN 14 (putN ⟨14, d, n, m, imm⟩) = ⟨14, d, n, m, imm⟩ ∧ putN ⟨14, d, n, m, imm⟩ < 65536 := by
 rw [show ∀ a b c d : Int, (InsM.mk 14 a b c d).can = true ↔ _ from fun a b c d => z_aw 14 (by omega) a b c d] at hc
 simp [shp, maxD, maxN, maxM, hasD, hasN, hasM] at hc
 rw [cn14]
 simp [putN, putGo, shp, InsM.get, free]
 try omega
theorem back15 (h : Nat) (hh : h / 2 ^ free 15 = (shp 15).bits / 2 ^ free 15) (hc : (candN 15 h).can = true) : putN (candN 15 h) = h := by
 rw [cn15] at hc ⊢
 rw [show ∀ a b c d : Int, (InsM.mk 15 a b c d).can = true ↔ _ from fun a b c d => z_aw 15 (by omega) a b c d] at hc
 simp [shp, maxD, maxN, maxM, hasD, hasN, hasM] at hc
 simp [free, shp] at hh
 simp [putN, putGo, shp, InsM.get]
 try omega
theorem forth15 (d n m imm : Int) (hc : (InsM.mk 15 d n m imm).can = true) : putN ⟨15, d, n, m, imm⟩ / 2 ^ free 15 = (shp 15).bits / 2 ^ free 15 ∧ candN 15 (putN ⟨15, d, n, m, imm⟩) = ⟨15, d, n, m, imm⟩ ∧ putN ⟨15, d, n, m, imm⟩ < 65536 := by
 rw [show ∀ a b c d : Int, (InsM.mk 15 a b c d).can = true ↔ _ from fun a b c d => z_aw 15 (by omega) a b c d] at hc
 simp [shp, maxD, maxN, maxM, hasD, hasN, hasM] at hc
 rw [cn15]
 simp [putN, putGo, shp, InsM.get, free]
 try omega
theorem back16 (h : Nat) (hh : h / 2 ^ free 16 = (shp 16).bits / 2 ^ free 16) (hc : (candN 16 h).can = true) : putN (candN 16 h) = h := by
 rw [cn16] at hc ⊢
 rw [show ∀ a b c d : Int, (InsM.mk 16 a b c d).can = true ↔ _ from fun a b c d => z_aw 16 (by omega) a b c d] at hc
 simp [shp, maxD, maxN, maxM, hasD, hasN, hasM] at hc
 simp [free, shp] at hh
 simp [putN, putGo, shp, InsM.get]
 try omega
theorem forth16 (d n m imm : Int) (hc : (InsM.mk 16 d n m imm).can = true) : putN ⟨16, d, n, m, imm⟩ / 2 ^ free 16 = (shp 16).bits / 2 ^ free 16 ∧ candN 16 (putN ⟨16, d, n, m, imm⟩) = ⟨16, d, n, m, imm⟩ ∧ putN ⟨16, d, n, m, imm⟩ < 65536 := by
 rw [show ∀ a b c d : Int, (InsM.mk 16 a b c d).can = true ↔ _ from fun a b c d => z_aw 16 (by omega) a b c d] at hc
 simp [shp, maxD, maxN, maxM, hasD, hasN, hasM] at hc
 rw [cn16]
 simp [putN, putGo, shp, InsM.get, free]
 try omega
theorem back17 (h : Nat) (hh : h / 2 ^ free 17 = (shp 17).bits / 2 ^ free 17) (hc : (candN 17 h).can = true) : putN (candN 17 h) = h := by
 rw [cn17] at hc ⊢
 rw [show ∀ a b c d : Int, (InsM.mk 17 a b c d).can = true ↔ _ from fun a b c d => z_aw 17 (by omega) a b c d] at hc
 simp [shp, maxD, maxN, maxM, hasD, hasN, hasM] at hc
 simp [free, shp] at hh
 simp [putN, putGo, shp, InsM.get]
 try omega
theorem forth17 (d n m imm : Int) (hc : (InsM.mk 17 d n m imm).can = true) : putN ⟨17, d, n, m, imm⟩ / 2 ^ free 17 = (shp 17).bits / 2 ^ free 17 ∧ candN 17 (putN ⟨17, d, n, m, imm⟩) = ⟨17, d, n, m, imm⟩ ∧ putN ⟨17, d, n, m, imm⟩ < 65536 := by
 rw [show ∀ a b c d : Int, (InsM.mk 17 a b c d).can = true ↔ _ from fun a b c d => z_aw 17 (by omega) a b c d] at hc
 simp [shp, maxD, maxN, maxM, hasD, hasN, hasM] at hc
 rw [cn17]
 simp [putN, putGo, shp, InsM.get, free]
 try omega
theorem back18 (h : Nat) (hh : h / 2 ^ free 18 = (shp 18).bits / 2 ^ free 18) (hc : (candN 18 h).can = true) : putN (candN 18 h) = h := by
 rw [cn18] at hc ⊢
 rw [show ∀ a b c d : Int, (InsM.mk 18 a b c d).can = true ↔ _ from fun a b c d => z_aw 18 (by omega) a b c d] at hc
 simp [shp, maxD, maxN, maxM, hasD, hasN, hasM] at hc
 simp [free, shp] at hh
 simp [putN, putGo, shp, InsM.get]
 try omega
theorem forth18 (d n m imm : Int) (hc : (InsM.mk 18 d n m imm).can = true) : putN ⟨18, d, n, m, imm⟩ / 2 ^ free 18 = (shp 18).bits / 2 ^ free 18 ∧ candN 18 (putN ⟨18, d, n, m, imm⟩) = ⟨18, d, n, m, imm⟩ ∧ putN ⟨18, d, n, m, imm⟩ < 65536 := by
 rw [show ∀ a b c d : Int, (InsM.mk 18 a b c d).can = true ↔ _ from fun a b c d => z_aw 18 (by omega) a b c d] at hc
 simp [shp, maxD, maxN, maxM, hasD, hasN, hasM] at hc
 rw [cn18]
 simp [putN, putGo, shp, InsM.get, free]
 try omega
theorem back19 (h : Nat) (hh : h / 2 ^ free 19 = (shp 19).bits / 2 ^ free 19) (hc : (candN 19 h).can = true) : putN (candN 19 h) = h := by
 rw [cn19] at hc ⊢
 rw [show ∀ a b c d : Int, (InsM.mk 19 a b c d).can = true ↔ _ from fun a b c d => z_aw 19 (by omega) a b c d] at hc
 simp [shp, maxD, maxN, maxM, hasD, hasN, hasM] at hc
 simp [free, shp] at hh
 simp [putN, putGo, shp, InsM.get]
 try omega
theorem forth19 (d n m imm : Int) (hc : (InsM.mk 19 d n m imm).can = true) : putN ⟨19, d, n, m, imm⟩ / 2 ^ free 19 = (shp 19).bits / 2 ^ free 19 ∧ candN 19 (putN ⟨19, d, n, m, imm⟩) = ⟨19, d, n, m, imm⟩ ∧ putN ⟨19, d, n, m, imm⟩ < 65536 := by
 rw [show ∀ a b c d : Int, (InsM.mk 19 a b c d).can = true ↔ _ from fun a b c d => z_aw 19 (by omega) a b c d] at hc
 simp [shp, maxD, maxN, maxM, hasD, hasN, hasM] at hc
 rw [cn19]
 simp [putN, putGo, shp, InsM.get, free]
 try omega
theorem back20 (h : Nat) (hh : h / 2 ^ free 20 = (shp 20).bits / 2 ^ free 20) (hc : (candN 20 h).can = true) : putN (candN 20 h) = h := by
 rw [cn20] at hc ⊢
 rw [show ∀ a b c d : Int, (InsM.mk 20 a b c d).can = true ↔ _ from fun a b c d => z_aw 20 (by omega) a b c d] at hc
 simp [shp, maxD, maxN, maxM, hasD, hasN, hasM] at hc
 simp [free, shp] at hh
 simp [putN, putGo, shp, InsM.get]
 try omega
theorem forth20 (d n m imm : Int) (hc : (InsM.mk 20 d n m imm).can = true) : putN ⟨20, d, n, m, imm⟩ / 2 ^ free 20 = (shp 20).bits / 2 ^ free 20 ∧ candN 20 (putN ⟨20, d, n, m, imm⟩) = ⟨20, d, n, m, imm⟩ ∧ putN ⟨20, d, n, m, imm⟩ < 65536 := by
 rw [show ∀ a b c d : Int, (InsM.mk 20 a b c d).can = true ↔ _ from fun a b c d => z_aw 20 (by omega) a b c d] at hc
 simp [shp, maxD, maxN, maxM, hasD, hasN, hasM] at hc
 rw [cn20]
 simp [putN, putGo, shp, InsM.get, free]
 try omega
end Go.Abs.Th
end
section
namespace Go.Abs.Th
def Pre (op h : Nat) : Prop := h / 2 ^ free op = (shp op).bits / 2 ^ free op
instance (op h : Nat) : Decidable (Pre op h) := inferInstanceAs (Decidable (_ = _))
theorem back (op : Nat) (hop : op ≤ 20) (h : Nat) (hh : Pre op h) (hc : (candN op h).can = true) : putN (candN op h) = h := by
 revert hh hc
 exact cases21 (P := fun op => Pre op h → (candN op h).can = true → putN (candN op h) = h) op hop (back0 h) (back1 h) (back2 h) (back3 h) (back4 h) (back5 h) (back6 h) (back7 h) (back8 h) (back9 h) (back10 h) (back11 h) (back12 h) (back13 h) (back14 h) (back15 h) (back16 h) (back17 h) (back18 h) (back19 h) (back20 h)
theorem forth (i : InsM) (hc : i.can = true) : Pre i.op.toNat (putN i) ∧ candN i.op.toNat (putN i) = i ∧ putN i < 65536 := by
 obtain ⟨op, d, n, m, imm⟩ := i
 obtain ⟨⟨h0, h1⟩, _⟩ := (z_gl _).1 hc
 dsimp only at h0 h1 ⊢
 obtain ⟨k, rfl⟩ : ∃ k : Nat, op = k := ⟨op.toNat, by omega⟩
 rw [Int.toNat_natCast]
 have hk : k ≤ 20 := by omega
 clear h0 h1
 revert hc
 exact cases21 (P := fun k => (InsM.mk k d n m imm).can = true → Pre k (putN ⟨k, d, n, m, imm⟩) ∧ candN k (putN ⟨k, d, n, m, imm⟩) = ⟨k, d, n, m, imm⟩ ∧ putN ⟨k, d, n, m, imm⟩ < 65536) k hk (forth0 d n m imm) (forth1 d n m imm) (forth2 d n m imm) (forth3 d n m imm) (forth4 d n m imm) (forth5 d n m imm) (forth6 d n m imm) (forth7 d n m imm) (forth8 d n m imm) (forth9 d n m imm) (forth10 d n m imm)
  (forth11 d n m imm) (forth12 d n m imm) (forth13 d n m imm) (forth14 d n m imm) (forth15 d n m imm) (forth16 d n m imm) (forth17 d n m imm) (forth18 d n m imm) (forth19 d n m imm) (forth20 d n m imm)
theorem z_wt (op h : Nat) (hop : op ≤ 20) : (candN op h).op = op :=
 cases21 (P := fun op => (candN op h).op = op) op hop (by rw [cn0]; rfl) (by rw [cn1]; rfl) (by rw [cn2]; rfl) (by rw [cn3]; rfl) (by rw [cn4]; rfl) (by rw [cn5]; rfl) (by rw [cn6]; rfl) (by rw [cn7]; rfl) (by rw [cn8]; rfl) (by rw [cn9]; rfl) (by rw [cn10]; rfl)
  (by rw [cn11]; rfl) (by rw [cn12]; rfl) (by rw [cn13]; rfl) (by rw [cn14]; rfl) (by rw [cn15]; rfl) (by rw [cn16]; rfl) (by rw [cn17]; rfl) (by rw [cn18]; rfl) (by rw [cn19]; rfl) (by rw [cn20]; rfl)
theorem apart : ∀ op : Nat, op ≤ 20 → ∀ op' : Nat, op' ≤ 20 → op ≠ op' → (shp op).bits / 2 ^ (max (free op) (free op')) ≠ (shp op').bits / 2 ^ (max (free op) (free op')) := by decide +kernel
theorem z_yy {op op' h : Nat} (h1 : op ≤ 20) (h2 : op' ≤ 20) (p : Pre op h) (q : Pre op' h) : op = op' := by
 refine Decidable.byContradiction fun hn => apart op h1 op' h2 hn ?_
 have key : ∀ a b n m : Nat, a / 2 ^ n = b / 2 ^ n → n ≤ m → a / 2 ^ m = b / 2 ^ m := by
  intro a b n m e hl
  obtain ⟨k, rfl⟩ : ∃ k, m = n + k := ⟨m - n, by omega⟩
  rw [Nat.pow_add, ← Nat.div_div_eq_div_mul, ← Nat.div_div_eq_div_mul, e]
 rw [← key _ _ _ _ p (by omega), key _ _ _ _ q (by omega)]
theorem z_j5 (op h : Nat) (hop : op ≤ 20) : isN op h = true ↔ Pre op h ∧ (candN op h).can = true := by
 unfold isN
 simp only [Bool.and_eq_true, beq_iff_eq]
 constructor
 ·rintro ⟨h1, h2⟩
  have := (forth _ h1).1
  rw [h2, z_wt op h hop, Int.toNat_natCast] at this
  exact ⟨this, h1⟩
 ·rintro ⟨h1, h2⟩
  exact ⟨h2, back op hop h h1 h2⟩
theorem isR_eq (op h : Nat) (hop : op ≤ 20) (hh : h < 65536) : isR op h = isN op h := by
 rw [Bool.eq_iff_iff, z_j5 op h hop]
 unfold isR
 rw [(z_lr op hop h hh).1, (z_lr op hop h hh).2]
 simp [Pre]
theorem z_kx (h op : Nat) (hop : op ≤ 20) (hi : isN op h = true) : ∀ k s : Nat, s + k = 21 → s ≤ op → z_hv h k s = (candN op h, 0)
 | 0, s, h1, h2 => by omega
 | k + 1, s, h1, h2 => by
  unfold z_hv
  by_cases e : isN s h = true
  ·rw [if_pos e, z_yy (by omega) hop ((z_j5 s h (by omega)).1 e).1 ((z_j5 op h hop).1 hi).1]
  ·rw [if_neg e]
   exact z_kx h op hop hi k (s + 1) (by omega) (by
    have : s ≠ op := fun q => e (q ▸ hi)
    omega)
theorem z_jt (h : Nat) (hn : ∀ op, op ≤ 20 → isN op h = false) : ∀ k s : Nat, s + k = 21 → z_hv h k s = (InsM.zero, 20)
 | 0, s, _ => rfl
 | k + 1, s, h1 => by
  unfold z_hv
  rw [hn s (by omega)]
  exact z_jt h hn k (s + 1) (by omega)
theorem z_my {op h : Nat} (hop : op ≤ 20) (hi : isN op h = true) : takeN h = (candN op h, 0) := z_kx h op hop hi 21 0 rfl (by omega)
theorem z_qv {h : Nat} (hn : ∀ op, op ≤ 20 → isN op h = false) : takeN h = (InsM.zero, 20) := z_jt h hn 21 0 rfl
theorem z_vh (i : InsM) (hc : i.can = true) : takeN (putN i) = (i, 0) := by
 obtain ⟨h1, h2, h3⟩ := forth i hc
 have h0 := ((z_gl _).1 hc).1
 rw [z_my (op := i.op.toNat) (by omega) ((z_j5 _ _ (by omega)).2 ⟨h1, by rw [h2]; exact hc⟩), h2]
theorem z_jk (h : Nat) : (∃ i : InsM, i.can = true ∧ putN i = h ∧ takeN h = (i, 0)) ∨ takeN h = (InsM.zero, 20) := by
 by_cases e : ∃ op, op ≤ 20 ∧ isN op h = true
 ·obtain ⟨op, h1, h2⟩ := e
  have h3 := (z_j5 op h h1).1 h2
  exact .inl ⟨candN op h, h3.2, back op h1 h h3.1 h3.2, z_my h1 h2⟩
 ·refine .inr (z_qv fun op h1 => ?_)
  cases q : isN op h with
  | false => rfl
  | true => exact (e ⟨op, h1, q⟩).elim
end Go.Abs.Th
end
end
