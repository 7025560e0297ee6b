/-
  The law of what is done with memory, over abstract values.
-/
import Derived.Test.YtkdkciaagekliaaM6
set_option linter.unusedSimpArgs false
set_option linter.unusedVariables false
namespace Go.Abs
structure ActM where
  k : Int
  a : BitVec 32
  w : BitVec 32
def ActM.cells (x : ActM) : List AV := [.int .i64 x.k, W32 x.a, W32 x.w]
def acts (l : List ActM) : List (List AV) := l.map ActM.cells
@[simp] theorem acts_length (l : List ActM) : (acts l).length = l.length := by simp [acts]
theorem acts_get (l : List ActM) (i : Nat) (h : i < l.length) : (acts l)[i]? = some (l[i]).cells := by simp [acts, h]
def actBlk (x : ActM) : Blk := ⟨T.ty_bautalaw05_Act, 3, true, [x.cells]⟩
def actM (m : MemM) (x : ActM) : MemM :=
  if x.k = 0 then (m.loads x.a).2 else if x.k = 1 then (m.store x.a x.w).2 else if x.k = 2 then m else if x.k = 3 then (m.sets (x.a.toNat % 12 : Nat) x.w).2 else m
theorem actM_keep (m : MemM) (x : ActM) : (actM m x).code = m.code ∧ (actM m x).tape = m.tape ∧ (actM m x).words.length = m.words.length := by
  have h1 := loads_keep m x.a; have h2 := store_keep m x.a x.w; have h3 := sets_keep m (x.a.toNat % 12 : Nat) x.w
  unfold actM; repeat' split
  all_goals simp_all
theorem actM_ok {m : MemM} (h : m.Ok) (x : ActM) : (actM m x).Ok := by
  unfold actM; repeat' split
  all_goals first | exact loads_ok h _ | exact store_ok h _ _ | exact sets_ok h _ _ | exact h
noncomputable abbrev actsL := law05_MemActs.l0 law05_short.spec mem_New.spec ref05_New.spec mem_Mem_Load.spec ref05_Mem_Load.spec mem_Mem_Store.spec ref05_Mem_Store.spec mem_Mem_Fetch.spec ref05_Mem_Fetch.spec mem_Mem_Set.spec mem_Mem_Bus.spec mem_Mem_Drawn.spec mem_Mem_Words.spec ref05_Same.spec law05_lives.spec
theorem acts_step (l : List ActM) (B : AHeap) (I : Ids) (m : MemM) (k : Nat) (hk : k < l.length) (hk6 : k < 60) (ok : TwoOk B I m) (hm : m.Ok) (hw : m.words.length = 9) :
    actsL (AFr.al [(2, .rsl 3 (acts l)), (7, .ptr I.b 5 0 0), (8, .ptr I.rb 5 0 0), (9, .int .i64 k)]) (B.two I m m) =
      some (.normal, AFr.al [(2, .rsl 3 (acts l)), (7, .ptr I.b 5 0 0), (8, .ptr I.rb 5 0 0), (9, .int .i64 (k + 1 : Nat))], (B.push (actBlk l[k])).two I (actM m l[k]) (actM m l[k])) := by
  have hg := acts_get l k hk
  generalize l[k] = x at hg ⊢
  obtain ⟨xk, xa, xw⟩ := x
  generalize hx : ActM.mk xk xa xw = x at hg ⊢
  obtain ⟨c1, c2, c3⟩ := actM_keep m x
  have hw' : (actM m x).words.length = 9 := c3.trans hw
  have hm' := actM_ok hm x
  have ok1 : TwoOk (B.push (actBlk x)) I m := ok.push
  have ok2 : TwoOk (B.push (actBlk x)) I (actM m x) := ok1.of c1 c2
  have e1 : ∀ z, ((B.two I m m).push z).set B.next (some (actBlk x)) = (B.push (actBlk x)).two I m m := fun z => by
    have := push_set (B.two I m m) z (actBlk x)
    rw [two_next] at this; rw [this, two_push _ ok]
  have g1 : ∀ m' : MemM, m'.code = m.code → m'.tape = m.tape → ∀ m'', ((B.push (actBlk x)).two I m'' m').get B.next = some (actBlk x) := fun m' q1 q2 m'' => two_new (ok.of q1 q2)
  have e2 := two_next (B := B) (I := I) (m := m) (r := m)
  have e3 := same_eq (actM m x).words (actM m x).words (by omega)
  have et : (w32s (actM m x).words).take 9 = w32s (actM m x).words := by rw [w32s_take, List.take_of_length_le (by omega)]
  have e4 := tBus (m := actM m x) ok2
  have e5 := tDrawn (m := actM m x) ok2
  have e6 := tWords ok2 hm'
  have e7 := two_get_rb (B := B.push (actBlk x)) (I := I) (m := actM m x) (r := actM m x)
  have e8 := two_get_rw (m := actM m x) ok2 (by omega)
  have e9 := cAV_pos I.rw 9 (by omega)
  have sa := fun v m1 r1 m2 => two_san (m := m2) ok1 v m1 r1
  have sb := fun v m1 r1 m2 => two_san (m := m2) ok2 v m1 r1
  simp only [actBlk, rBlk, hw', e9, wrdBlk, ActM.cells] at e1 e7 e8 e9 sa sb
  have g0 := g1 m rfl rfl
  have g2 := g1 (actM m x) c1 c2
  simp only [actBlk, ActM.cells] at g0 g2 e1 e4 e5 e6 e7 e8 hg ⊢
  by_cases k0 : xk = 0
  · subst k0
    subst hx
    have am : actM m ⟨0, xa, xw⟩ = (m.loads xa).2 := by simp [actM]
    have f1 := tLoad ok1 hm xa
    have f2 := trLoad (m := (m.loads xa).2) ok1 hm xa
    rw [← am] at f1 f2
    simp only [actBlk, ActM.cells] at f1 f2
    simp -implicitDefEqProofs +contextual (disch := omega) [actsL, law05_MemActs.l0, hg, hk, hk6, e1, e2, e3, e4, e5, e6, e7, e8, et, sa, sb, g0, g2, f1, f2]
  · by_cases k1 : xk = 1
    · subst k1
      subst hx
      have am : actM m ⟨1, xa, xw⟩ = (m.store xa xw).2 := by simp [actM]
      have f1 := tStore ok1 hm xa xw
      have f2 := trStore (m := (m.store xa xw).2) ok1 hm xa xw
      rw [← am] at f1 f2
      simp only [actBlk, ActM.cells] at f1 f2
      simp -implicitDefEqProofs +contextual (disch := omega) [actsL, law05_MemActs.l0, hg, hk, hk6, e1, e2, e3, e4, e5, e6, e7, e8, et, sa, sb, g0, g2, f1, f2]
    · by_cases k2 : xk = 2
      · subst k2
        subst hx
        have am : actM m ⟨2, xa, xw⟩ = m := by simp [actM]
        have f1 := tFetch ok1 hm xa
        have f2 := trFetch (m := m) ok1 hm xa
        rw [am] at e3 e4 e5 e6 e7 e8 sb et g2 ⊢
        simp only [actBlk, ActM.cells] at f1 f2
        simp -implicitDefEqProofs +contextual (disch := omega) [actsL, law05_MemActs.l0, hg, hk, hk6, e1, e2, e3, e4, e5, e6, e7, e8, et, sa, sb, g0, g2, f1, f2]
      · by_cases k3 : xk = 3
        · subst k3
          subst hx
          obtain ⟨q, hq⟩ : ∃ q : Nat, xa.toNat % 12 = q := ⟨_, rfl⟩
          have am : actM m ⟨3, xa, xw⟩ = (m.sets (q : Nat) xw).2 := by simp [actM, ← hq]
          have f1 := tSet (m := m) ok1 (q : Nat) xw
          have f3 := two_get_rb (B := B.push (actBlk ⟨3, xa, xw⟩)) (I := I) (m := actM m ⟨3, xa, xw⟩) (r := m)
          have f4 := two_get_rw (m := actM m ⟨3, xa, xw⟩) ok1 (by omega)
          have f5 := g1 m rfl rfl (actM m ⟨3, xa, xw⟩)
          have hb9 := cAV_pos I.rw 9 (by omega)
          have hq' : xa.toNat % 12 = q := hq
          rw [← am] at f1
          simp only [actBlk, ActM.cells, rBlk, hw, hb9, wrdBlk] at f1 f3 f4 f5
          by_cases h9 : q < 9
          · have h9i : (q : Int) < 9 := by omega
            have s1 : (m.sets (q : Nat) xw).1 = true := by simp [MemM.sets, MemM.there, hw, h9i]
            have s2 : actM m ⟨3, xa, xw⟩ = { m with words := m.words.set q xw } := by rw [am]; simp [MemM.sets, MemM.there, hw, h9i]
            have f6 := two_set_rw (m := actM m ⟨3, xa, xw⟩) ok1 (by omega) (m.words.set q xw) (by simp)
            rw [← s2] at f6
            simp only [actBlk, ActM.cells, wrdBlk] at f6
            rw [s1] at f1
            simp -implicitDefEqProofs +contextual (disch := omega) [actsL, law05_MemActs.l0, hg, hk, hk6, e1, e2, e3, e4, e5, e6, e7, e8, et, sa, sb, g0, g2, f1, f3, f4, f5, f6, hq, h9, h9i, hw]
          · have h9i : ¬ (q : Int) < 9 := by omega
            have s1 : (m.sets (q : Nat) xw).1 = false := by simp [MemM.sets, MemM.there, hw, h9i]
            have s2 : actM m ⟨3, xa, xw⟩ = m := by rw [am]; simp [MemM.sets, MemM.there, hw, h9i]
            rw [s1] at f1
            rw [s2] at e3 e4 e5 e6 e7 e8 sb et g2 f1 f3 f4 f5 ⊢
            simp -implicitDefEqProofs +contextual (disch := omega) [actsL, law05_MemActs.l0, hg, hk, hk6, e1, e2, e3, e4, e5, e6, e7, e8, et, sa, sb, g0, g2, f1, f3, f4, f5, hq, h9, h9i, hw]
        · subst hx
          have am : actM m ⟨xk, xa, xw⟩ = m := by simp [actM, k0, k1, k2, k3]
          rw [am] at e3 e4 e5 e6 e7 e8 sb et g2 ⊢
          simp -implicitDefEqProofs +contextual (disch := omega) [actsL, law05_MemActs.l0, hg, hk, hk6, k0, k1, k2, k3, e1, e2, e3, e4, e5, e6, e7, e8, et, sa, sb, g0, g2]

theorem memActs_law (code0 : List (BitVec 16)) (tape0 : List (BitVec 32)) (l : List ActM) (hll : l.length ≤ 100000000000000) : law05_MemActs.spec [.rsl 1 (w16s code0), .rsl 1 (w32s tape0), .rsl 3 (acts l)] = some (.bool true) := by
  have hs := short_eq code0 tape0
  generalize hC : code0.take 300 = code at hs
  generalize hT : tape0.take 100 = tape at hs
  have hlc : code.length ≤ 300 := by rw [← hC]; simp; omega
  have hlt : tape.length ≤ 100 := by rw [← hT]; simp; omega
  obtain ⟨B, I, X, n1, n2, ok, n3⟩ := two_ex AHeap.empty code tape 9 AHeap.WF.empty (by omega) (by omega)
  have hok := new_ok code tape 9 (by omega)
  have hw : (MemM.new code 9 tape).words.length = 9 := by simp only [MemM.new, List.length_replicate]; decide
  generalize MemM.new code 9 tape = m at n1 n2 ok hok hw
  obtain ⟨e, fr', X', hgo, hq⟩ := aloop_upto (f := actsL) (fun k fr X => ∃ B m, fr = AFr.al [(2, .rsl 3 (acts l)), (7, .ptr I.b 5 0 0), (8, .ptr I.rb 5 0 0), (9, .int .i64 k)] ∧ X = B.two I m m ∧ TwoOk B I m ∧ m.Ok ∧ m.words.length = 9)
    (min l.length 60) (fun e fr X => e = .exit 0) (fun k hk fr X hR => by
      obtain ⟨B, m, rfl, rfl, r1, r2, r3⟩ := hR
      refine ⟨_, _, acts_step l B I m k (by omega) (by omega) r1 r2 r3, _, _, rfl, rfl, ?_, actM_ok r2 _, (actM_keep m _).2.2.trans r3⟩
      exact r1.push.of (actM_keep m _).1 (actM_keep m _).2.1) (fun fr X hR => by
      obtain ⟨B, m, rfl, rfl, r1, r2, r3⟩ := hR
      refine ⟨.exit 0, AFr.al [(2, .rsl 3 (acts l)), (7, .ptr I.b 5 0 0), (8, .ptr I.rb 5 0 0), (9, .int .i64 (min l.length 60 : Nat)), (42, .bool false)], B.two I m m, ?_, by simp, rfl⟩
      by_cases h : l.length ≤ 60
      · rw [Nat.min_eq_left h]
        simp -implicitDefEqProofs +contextual (disch := omega) [actsL, law05_MemActs.l0]
      · rw [Nat.min_eq_right (by omega)]
        have h1 : (60 : Int) < l.length := by omega
        simp -implicitDefEqProofs +contextual (disch := omega) [actsL, law05_MemActs.l0, h1])
    (fr := AFr.al [(2, .rsl 3 (acts l)), (7, .ptr I.b 5 0 0), (8, .ptr I.rb 5 0 0), (9, .int .i64 (0 : Nat))]) (H := B.two I m m) ⟨B, m, rfl, rfl, ok, hok, hw⟩
  subst hq
  rw [show ((0 : Nat) : Int) = 0 from rfl] at hgo
  simp -implicitDefEqProofs +contextual (disch := omega) [law05_MemActs.spec, law05_MemActs, hs, n1, n2, hgo, lives05]
theorem law05_MemActs_law (args : List AV) (h : ArgsSh [(false, [.sl 1 2 [.int .u16]]), (false, [.sl 1 4 [.int .u32]]), (false, [.sl 3 16 [.int .i64, .int .u32, .int .u32]])] args) : law05_MemActs.spec args = some (.bool true) := by
  obtain ⟨a, _, rfl, h1, h⟩ := args_one h
  obtain ⟨b, _, rfl, h2, h⟩ := args_one h
  obtain ⟨c, _, rfl, h3, h⟩ := args_one h
  obtain rfl := args_nil h
  obtain ⟨x, rfl, hx⟩ := sh_sl16 h1.1
  obtain ⟨y, rfl, hy⟩ := sh_sl32 h2.1
  obtain ⟨z, rfl, hz, _⟩ := sh_sl (enc := ActM.cells) (ok := fun _ => True) (fun row h => by
    obtain ⟨a, _, rfl, q1, h⟩ := shs_cons h
    obtain ⟨b, _, rfl, q2, h⟩ := shs_cons h
    obtain ⟨c, rfl, q3⟩ := shs_one h
    obtain ⟨x, rfl, hx⟩ := sh_i64 q1
    obtain ⟨y, rfl⟩ := sh_u32 q2
    obtain ⟨z, rfl⟩ := sh_u32 q3
    exact ⟨⟨x, y, z⟩, rfl, trivial⟩) h3.1
  exact memActs_law x y z (by omega)
end Go.Abs
