import Derived.Test.YteohnepdbjmghaaAbB
import Derived.WalkKit
import Derived.ProofKit
import Derived.OpenShut
import Derived.ShutString
import Derived.ChangeOld
import Derived.Below
import Derived.SizedLaws
import Derived.Carry
import Derived.DataElems
import Derived.Laws.Entries
import Derived.IntWalk
section
set_option linter.unusedSimpArgs false
set_option linter.unusedVariables false
namespace Go.Abs
open Go.ChangeShapes Go.RowKit
def OkCells (P : Program) : Nat → TypeId → List AV → Prop
  | 0, _, _ => False
  | d + 1, t, cs =>
    match P.underlying t with
    | some (.int k) => ∃ n, cs = [.int k n] ∧ (Lit.int k n).wf = true
    | some .bool => ∃ b, cs = [.bool b]
    | some .string => ∃ s, cs = [.str s] ∧ s.size ≤ maxLen ∧ s.size ≤ reachBytes
    | some (.slice e) => ∃ rows : List (List AV), cs = [.rsl (P.cellsOf e) rows] ∧ rows.length ≤ maxLen ∧ rows.length * P.bytesOf e ≤ reachBytes ∧ ∀ row, row ∈ rows → OkCells P d e row
    | some (.struct fs) => cs.length = P.cellsOf t ∧ ∀ f, f ∈ fs.toList → OkCells P d f.type ((cs.drop f.offset).take (P.cellsOf f.type))
    | some (.array n e) => cs.length = P.cellsOf t ∧ ∀ i, i < n → OkCells P d e ((cs.drop (i * P.cellsOf e)).take (P.cellsOf e))
    | _ => False
def OkArg (P : Program) (d : Nat) (t : TypeId) (a : AV) : Prop :=
  match P.underlying t with
  | some (.struct _) | some (.array _ _) => ∃ cs, a = .agg cs ∧ OkCells P d t cs
  | _ => OkCells P d t [a]
def inRow (P : Program) (total : Nat) : Nat → List Field → Bool
  | off, [] => off == total
  | off, f :: fs => f.offset == off && inRow P total (off + P.cellsOf f.type) fs
def plainTy (P : Program) : Nat → TypeId → Bool
  | 0, _ => false
  | d + 1, t =>
    match P.underlying t with
    | some (.int _) | some .bool | some .string => P.cellsOf t == 1
    | some (.slice e) => P.cellsOf t == 1 && !(P.cellsOf e == 0) && plainTy P d e
    | some (.struct fs) => inRow P (P.cellsOf t) 0 fs.toList && fs.toList.all fun f => plainTy P d f.type
    | some (.array n e) => P.cellsOf t == n * P.cellsOf e && plainTy P d e
    | _ => false
section
variable {H : Type} {enc : TypeId × Value → H} {P : Program} {w : World}
abbrev RL0 (w : World) (cs : List AV) (vs : List Value) : Prop := RL w (fun _ => False) (fun _ => False) id cs vs
theorem RL.append {F A : Nat → Prop} {m : Nat → Nat} {cs cs' : List AV} {vs vs' : List Value} (h : RL w F A m cs vs) (h' : RL w F A m cs' vs') : RL w F A m (cs ++ cs') (vs ++ vs') := by
  refine ⟨by simp [h.1, h'.1], fun i a v h1 h2 => ?_⟩
  rw [List.getElem?_append] at h1 h2
  rw [h.1] at h1
  split at h1
  · rename_i hi
    rw [if_pos hi] at h2
    exact h.2 i a v h1 h2
  · rename_i hi
    rw [if_neg hi] at h2
    exact h'.2 _ a v h1 h2
theorem glue_fields {ok : TypeId → List AV → Prop} {cs : List Value} {total : Nat} (hcs : cs.length = total) : ∀ (fs : List Field) (off : Nat), inRow P total off fs = true →
    (∀ f, f ∈ fs → ∃ as, RL0 w as ((cs.drop f.offset).take (P.cellsOf f.type)) ∧ as.all AV.flat = true ∧ ok f.type as) →
    ∃ as, RL0 w as (cs.drop off) ∧ as.all AV.flat = true ∧ ∀ f, f ∈ fs → off ≤ f.offset ∧ ok f.type ((as.drop (f.offset - off)).take (P.cellsOf f.type))
  | [], off, hr, _ => by
    simp only [inRow, beq_iff_eq] at hr
    refine ⟨[], ⟨by simp; omega, by simp⟩, rfl, by simp⟩
  | f :: fs, off, hr, h => by
    simp only [inRow, Bool.and_eq_true, beq_iff_eq] at hr
    obtain ⟨rfl, hr⟩ := hr
    obtain ⟨as1, h1, h2, h3⟩ := h f (by simp)
    obtain ⟨as2, q1, q2, q3⟩ := glue_fields hcs fs _ hr fun g hg => h g (by simp [hg])
    have hle : ∀ (fs : List Field) (o : Nat), inRow P total o fs = true → o ≤ total := by
      intro fs
      induction fs with
      | nil => intro o h; simp only [inRow, beq_iff_eq] at h; omega
      | cons g fs ih =>
        intro o h
        simp only [inRow, Bool.and_eq_true, beq_iff_eq] at h
        have := ih _ h.2; omega
    have hle := hle _ _ hr
    have hl1 : as1.length = P.cellsOf f.type := by rw [h1.1]; simp; omega
    refine ⟨as1 ++ as2, ?_, by simp [List.all_append, h2, q2], fun g hg => ?_⟩
    · have e : cs.drop f.offset = (cs.drop f.offset).take (P.cellsOf f.type) ++ cs.drop (f.offset + P.cellsOf f.type) := by
        rw [← List.drop_drop, List.take_append_drop]
      rw [e]; exact h1.append q1
    · rcases List.mem_cons.1 hg with rfl | hg
      · refine ⟨Nat.le_refl _, ?_⟩
        rw [Nat.sub_self, List.drop_zero, List.take_append_of_le_length (by omega), List.take_of_length_le (by omega)]
        exact h3
      · obtain ⟨p1, p2⟩ := q3 g hg
        refine ⟨by omega, ?_⟩
        rw [List.drop_append, List.drop_of_length_le (by omega), List.nil_append, hl1, show g.offset - f.offset - P.cellsOf f.type = g.offset - (f.offset + P.cellsOf f.type) by omega]
        exact p2
theorem glue_elems {ok : List AV → Prop} {cs : List Value} {sz : Nat} : ∀ (n k : Nat), cs.length = (k + n) * sz →
    (∀ i, i < k + n → ∃ as, RL0 w as ((cs.drop (i * sz)).take sz) ∧ as.all AV.flat = true ∧ ok as) →
    ∃ as, RL0 w as (cs.drop (k * sz)) ∧ as.all AV.flat = true ∧ ∀ i, i < n → ok ((as.drop (i * sz)).take sz)
  | 0, k, hl, _ => ⟨[], ⟨by rw [Nat.add_zero] at hl; simp; omega, by simp⟩, rfl, fun i hi => by omega⟩
  | n + 1, k, hl, h => by
    obtain ⟨as1, h1, h2, h3⟩ := h k (by omega)
    obtain ⟨as2, q1, q2, q3⟩ := glue_elems (ok := ok) n (k + 1) (by rw [hl]; congr 1; omega) fun i hi => h i (by omega)
    have hle : k * sz + sz ≤ cs.length := by rw [hl, ← Nat.succ_mul]; exact Nat.mul_le_mul_right _ (by omega)
    have hl1 : as1.length = sz := by rw [h1.1]; simp; omega
    refine ⟨as1 ++ as2, ?_, by simp [List.all_append, h2, q2], fun i hi => ?_⟩
    · have e : cs.drop (k * sz) = (cs.drop (k * sz)).take sz ++ cs.drop ((k + 1) * sz) := by
        rw [Nat.succ_mul, ← List.drop_drop, List.take_append_drop]
      rw [e]; exact h1.append q1
    · cases i with
      | zero =>
        rw [Nat.zero_mul, List.drop_zero, List.take_append_of_le_length (by omega), List.take_of_length_le (by omega)]
        exact h3
      | succ i =>
        have := q3 i (by omega)
        rw [List.drop_append, List.drop_of_length_le (by rw [hl1, Nat.succ_mul]; omega), List.nil_append, hl1, Nat.succ_mul, Nat.add_sub_cancel]
        exact this
theorem trod_flat : ∀ (D fuel : Nat) (t : TypeId) (cs : List Value) (x : DataW H × List MemPlace), plainTy P D t = true → DataW.trod enc P w 0 (fun _ => true) true fuel t cs = some x → (∀ n, n ∈ x.1.weights P t → n ≤ reachBytes) →
    ∃ as, RL0 w as cs ∧ as.all AV.flat = true ∧ OkCells P D t as ∧ as.length = P.cellsOf t
  | 0, _, _, _, _, hp, _, _ => by simp [plainTy] at hp
  | D + 1, fuel, t, cs, x, hp, h, hw => by
    unfold plainTy at hp
    unfold OkCells
    split at hp
    · rename_i k hu
      obtain ⟨n, rfl, rfl, hn⟩ := DataW.trod_int hu h
      simp only [beq_iff_eq] at hp
      exact ⟨[.int k n], ⟨rfl, fun i a v h1 h2 => by cases i <;> simp at h1 h2; subst h1 h2; exact .int k n⟩, rfl, ⟨n, rfl, hn⟩, hp.symm⟩
    · rename_i hu
      obtain ⟨b, rfl, rfl⟩ := DataW.trod_bool hu h
      simp only [beq_iff_eq] at hp
      exact ⟨[.bool b], ⟨rfl, fun i a v h1 h2 => by cases i <;> simp at h1 h2; subst h1 h2; exact .bool b⟩, rfl, ⟨b, rfl⟩, hp.symm⟩
    · rename_i hu
      obtain ⟨s, rfl, rfl, hs⟩ := DataW.trod_string hu h
      simp only [beq_iff_eq] at hp
      have hr : s.size ≤ reachBytes := by
        have := hw s.data.toList.length (by simp [DataW.weights])
        simpa using this
      exact ⟨[.str s], ⟨rfl, fun i a v h1 h2 => by cases i <;> simp at h1 h2; subst h1 h2; exact .str s⟩, rfl, ⟨s, rfl, hs, hr⟩, hp.symm⟩
    · rename_i e hu
      simp only [Bool.and_eq_true, beq_iff_eq, Bool.not_eq_true', beq_eq_false_iff_ne] at hp
      rcases DataW.trod_slice hu h with ⟨rfl, rfl⟩ | ⟨a, len, cap, elems, rest, n, _, rfl, rfl, hb, hlc, hcm, hlen, hel, hsp, hns⟩
      · refine ⟨[.rsl (P.cellsOf e) []], ⟨rfl, fun i a v h1 h2 => by cases i <;> simp at h1 h2; subst h1 h2; exact .rsl0 _ _ _ fun _ => rfl⟩, rfl, ⟨[], rfl, by simp, by simp, by simp⟩, hp.1.1.symm⟩
      · have hwt : (elems.length + rest.length) * P.bytesOf e ≤ reachBytes := by
          have := hw ((elems.length + rest.length) * P.bytesOf e) (by simp [DataW.weights, hu])
          exact this
        have hrow : ∀ i, i < len → ∃ cs' as, w.cells? 0 (a.add (i * P.cellsOf e)) (P.cellsOf e) = some cs' ∧ RL0 w as cs' ∧ as.all AV.flat = true ∧ OkCells P D e as ∧ as.length = P.cellsOf e := by
          intro i hi
          have hi' : i < elems.length := by omega
          have := hel i hi
          rw [show elems[i]? = some elems[i] by simp [hi']] at this
          cases hc : w.cells? 0 (a.add (i * P.cellsOf e)) (P.cellsOf e) with
          | none => rw [hc] at this; simp at this
          | some cs' =>
            rw [hc] at this
            simp only [Option.bind_some] at this
            obtain ⟨as, q1, q2, q3, q4⟩ := trod_flat D n e cs' elems[i] hp.2 this (fun k hk => hw k (by
              simp only [DataW.weights, hu, List.mem_cons, List.mem_append]
              refine .inr (.inl ?_)
              have hall : ∀ (l : List (DataW H)) (y : DataW H), y ∈ l → k ∈ y.weights P e → k ∈ DataW.weightsAll P e l := by
                intro l
                induction l with
                | nil => intro y hy; cases hy
                | cons z l ih =>
                  intro y hy hk
                  simp only [DataW.weightsAll, List.mem_append]
                  rcases List.mem_cons.1 hy with rfl | hy
                  · exact .inl hk
                  · exact .inr (ih y hy hk)
              exact hall _ _ (List.mem_map_of_mem (List.getElem_mem hi')) hk))
            exact ⟨cs', as, rfl, q1, q2, q3, q4⟩
        cases len with
        | zero =>
          exact ⟨[.rsl (P.cellsOf e) []], ⟨rfl, fun i a v h1 h2 => by cases i <;> simp at h1 h2; subst h1 h2; exact .rsl0 _ _ _ fun h => by cases h⟩, rfl, ⟨[], rfl, by simp, by simp, by simp⟩, hp.1.1.symm⟩
        | succ len' =>
          generalize hlen1 : len' + 1 = len at *
          have hpos : 0 < len := by omega
          have hch : ∃ (rows : List (List AV)), rows.length = len ∧ ∀ i row, rows[i]? = some row → ∃ cs', w.cells? 0 (a.add (i * P.cellsOf e)) (P.cellsOf e) = some cs' ∧ RL0 w row cs' ∧ row.all AV.flat = true ∧ OkCells P D e row ∧ row.length = P.cellsOf e := by
            have gen : ∀ k, k ≤ len → ∃ (rows : List (List AV)), rows.length = k ∧ ∀ i row, rows[i]? = some row → ∃ cs', w.cells? 0 (a.add (i * P.cellsOf e)) (P.cellsOf e) = some cs' ∧ RL0 w row cs' ∧ row.all AV.flat = true ∧ OkCells P D e row ∧ row.length = P.cellsOf e := by
              intro k
              induction k with
              | zero => intro _; exact ⟨[], rfl, by simp⟩
              | succ k ih =>
                intro hk
                obtain ⟨rows, r1, r2⟩ := ih (by omega)
                obtain ⟨cs', as, q⟩ := hrow k (by omega)
                refine ⟨rows ++ [as], by simp [r1], fun i row hi => ?_⟩
                rw [List.getElem?_append] at hi
                split at hi
                · exact r2 i row hi
                · rename_i hge
                  have hik : i = k := by
                    have h3 := (List.getElem?_eq_some_iff.1 hi).1
                    simp only [List.length_singleton] at h3
                    omega
                  subst hik
                  simp only [r1, Nat.sub_self, List.getElem?_cons_zero, Option.some.injEq] at hi
                  subst hi
                  exact ⟨cs', q⟩
            exact gen len (Nat.le_refl _)
          obtain ⟨rows, hrl, hrows⟩ := hch
          have hlen2 : rows.length * P.bytesOf e ≤ reachBytes := Nat.le_trans (Nat.mul_le_mul_right _ (by omega)) hwt
          refine ⟨[.rsl (P.cellsOf e) rows], ⟨rfl, fun i' a' v h1 h2 => ?_⟩, rfl, ⟨rows, rfl, by omega, hlen2, fun row hr => ?_⟩, hp.1.1.symm⟩
          · cases i' <;> simp at h1 h2
            subst h1 h2
            · have hz := hp.1.2
              have hcell : ∀ i row j b, rows[i]? = some row → row[j]? = some b → ∃ v, w.cell? (a.add (i * P.cellsOf e + j)) = some v ∧ RV w (fun _ => False) (fun _ => False) id b v ∧ b.flat = true := by
                intro i row j b hi hj
                obtain ⟨cs', c1, c2, c3, c4, c5⟩ := hrows i row hi
                have hjl : j < P.cellsOf e := by have := (List.getElem?_eq_some_iff.1 hj).1; omega
                have hjc : j < cs'.length := by rw [← c2.1]; omega
                unfold World.cells? at c1
                rw [if_pos (Nat.zero_le _)] at c1
                have := mapM_some_get c1 j j (by simp [hjl])
                rw [show cs'[j]? = some cs'[j] by simp [hjc]] at this
                refine ⟨cs'[j], ?_, c2.2 j b _ hj (by simp [hjc]), List.all_eq_true.1 c3 b (List.mem_of_getElem? hj)⟩
                rw [← this]
                congr 1
                exact (Addr.add_add _ _ _).symm
              have hspot : ∃ cb co, a = ⟨cb, co, none⟩ := by
                have h0 : rows[0]? = some rows[0] := by simp [hrl, hpos]
                have hl0 : rows[0].length = P.cellsOf e := by obtain ⟨_, _, _, _, _, h⟩ := hrows 0 _ h0; exact h
                obtain ⟨v, hv, _⟩ := hcell 0 rows[0] 0 (rows[0][0]'(by omega)) h0 (by simp)
                obtain ⟨cb, co, sp⟩ := a
                cases sp with
                | none => exact ⟨cb, co, rfl⟩
                | some s =>
                  exfalso
                  unfold World.cell? at hv
                  split at hv
                  · simp [Addr.add] at hv
                  · cases hv
              obtain ⟨cb, co, rfl⟩ := hspot
              have hlt : cb < w.heap.size := by
                have h0 : rows[0]? = some rows[0] := by simp [hrl, hpos]
                have hl0 : rows[0].length = P.cellsOf e := by obtain ⟨_, _, _, _, _, h⟩ := hrows 0 _ h0; exact h
                obtain ⟨v, hv, _⟩ := hcell 0 rows[0] 0 (rows[0][0]'(by omega)) h0 (by simp)
                rw [Addr.add_lit] at hv
                unfold World.cell? at hv
                split at hv
                · rename_i hh; exact (Array.getElem?_eq_some_iff.1 hh).1
                · cases hv
              have hflat : flatRows rows := fun row hr b hb => by
                obtain ⟨i, hi⟩ := List.getElem?_of_mem hr
                obtain ⟨_, _, _, c3, _, _⟩ := hrows i row hi
                exact List.all_eq_true.1 c3 b hb
              have := RV.rsl (w := w) (F := fun _ => False) (A := fun _ => False) (m := id) (P.cellsOf e) rows cb co cap (fun i j => ((w.cell? ⟨cb, co + (i * P.cellsOf e + j), none⟩)).getD undef) (fun h => h) hlt (by omega)
                (fun row hr => by
                  obtain ⟨i, hi⟩ := List.getElem?_of_mem hr
                  obtain ⟨_, _, _, _, _, h⟩ := hrows i row hi
                  exact h) hflat
                (fun i row j b h1 h2 => by
                  obtain ⟨v, q1, q2, q3⟩ := hcell i row j b h1 h2
                  have q1 : w.cell? ⟨cb, co + (i * P.cellsOf e + j), none⟩ = some v := by rw [Addr.add_lit] at q1; exact q1
                  rw [q1]
                  refine ⟨rfl, ?_⟩
                  simp only [Option.getD_some]
                  cases q2 <;> first | rfl | (simp [AV.flat] at q3))
                (fun i row j b h1 h2 => by
                  obtain ⟨v, q1, q2, q3⟩ := hcell i row j b h1 h2
                  have q1 : w.cell? ⟨cb, co + (i * P.cellsOf e + j), none⟩ = some v := by rw [Addr.add_lit] at q1; exact q1
                  rw [q1]; exact q2)
              rw [hrl] at this
              exact this
          · obtain ⟨i, hi⟩ := List.getElem?_of_mem hr
            obtain ⟨_, _, _, _, h, _⟩ := hrows i row hi
            exact h
    · rename_i fs hu
      simp only [Bool.and_eq_true, List.all_eq_true] at hp
      obtain ⟨xs, n, _, rfl, hl, hxl, hx⟩ := DataW.trod_struct hu h
      obtain ⟨as, q1, q2, q3⟩ := glue_fields (w := w) (P := P) (ok := fun t as => OkCells P D t as) (cs := cs) (total := P.cellsOf t) hl fs.toList 0 hp.1 fun f hf => by
        obtain ⟨i, hi⟩ := List.getElem?_of_mem hf
        have hil : i < fs.size := by have := (List.getElem?_eq_some_iff.1 hi).1; simpa using this
        have hxi := hx i f (by simpa using hi)
        have hil2 : i < xs.length := by omega
        rw [show xs[i]? = some xs[i] by simp [hil2]] at hxi
        obtain ⟨as, q1, q2, q3, _⟩ := trod_flat D n f.type _ xs[i] (hp.2 f hf) hxi fun k hk => hw k (by
          simp only [DataW.weights, hu]
          refine DataW.weights_mem_each (j := i) (t := f.type) (d := xs[i].1) ?_ ?_ k hk
          · rw [List.getElem?_map, hi]; rfl
          · simp [hil2])
        exact ⟨as, q1, q2, q3⟩
      refine ⟨as, by simpa using q1, q2, ⟨?_, fun f hf => ?_⟩, ?_⟩
      · rw [q1.1]; simpa using hl
      · have := (q3 f hf).2
        simpa using this
      · rw [q1.1]; simpa using hl
    · rename_i n e hu
      simp only [Bool.and_eq_true, beq_iff_eq] at hp
      obtain ⟨xs, m, _, rfl, hl, hxl, hx⟩ := DataW.trod_array hu h
      obtain ⟨as, q1, q2, q3⟩ := glue_elems (w := w) (ok := fun as => OkCells P D e as) (cs := cs) (sz := P.cellsOf e) n 0 (by rw [hl, hp.1, Nat.zero_add]) fun i hi => by
        have hi : i < n := by omega
        have hxi := hx i hi
        have hil2 : i < xs.length := by omega
        rw [show xs[i]? = some xs[i] by simp [hil2]] at hxi
        obtain ⟨as, q1, q2, q3, _⟩ := trod_flat D m e _ xs[i] hp.2 hxi fun k hk => hw k (by
          simp only [DataW.weights, hu]
          have hall : ∀ (l : List (DataW H)) (y : DataW H), y ∈ l → k ∈ y.weights P e → k ∈ DataW.weightsAll P e l := by
            intro l
            induction l with
            | nil => intro y hy; cases hy
            | cons z l ih =>
              intro y hy hk
              simp only [DataW.weightsAll, List.mem_append]
              rcases List.mem_cons.1 hy with rfl | hy
              · exact .inl hk
              · exact .inr (ih y hy hk)
          exact hall _ _ (List.mem_map_of_mem (List.getElem_mem hil2)) hk)
        exact ⟨as, q1, q2, q3⟩
      refine ⟨as, by simpa using q1, q2, ⟨?_, fun i hi => q3 i hi⟩, ?_⟩
      · rw [q1.1]; simpa using hl
      · rw [q1.1]; simpa using hl
    · cases hp
end
end Go.Abs
end
section
set_option linter.unusedSimpArgs false
set_option linter.unusedVariables false
namespace Go.Abs
open Go.ChangeShapes Go.RowKit
abbrev SpecP := List AV → Option AV
abbrev SpecM := List AV → AHeap → Option (AV × AHeap)
def OkArgs (P : Program) (d : Nat) : List TypeId → List AV → Prop
  | [], [] => True
  | t :: ts, a :: as => OkArg P d t a ∧ OkArgs P d ts as
  | _, _ => False
section
variable {H : Type} {enc : TypeId × Value → H} {P : Program} {w : World}
theorem open_arg {D base : Nat} {t : TypeId} {v : Value} {d : DataW H} {p : List MemPlace} (hp : plainTy P D t = true) (hv : Value.okWide P w .any base t v)
    (h : DataW.Trod enc P w 0 (fun _ => true) true t v d p) (hw : ∀ n, n ∈ d.weights P t → n ≤ reachBytes) : ∃ a, RV w (fun _ => False) (fun _ => False) id a v ∧ OkArg P D t a := by
  obtain ⟨fuel, hf⟩ := h
  obtain ⟨as, h1, h2, h3, h4⟩ := trod_flat D fuel t _ (d, p) hp hf hw
  unfold OkArg
  unfold Value.okWide at hv
  have one : P.cellsOf t = 1 → (∀ vs, v ≠ .agg vs) → ∃ a, as = [a] ∧ RV w (fun _ => False) (fun _ => False) id a v := by
    intro hc hna
    have hvc : v.cells = #[v] := by cases v <;> first | rfl | exact absurd rfl (hna _)
    rw [hvc] at h1
    match as, h1, h4 with
    | [a], h1, _ => exact ⟨a, rfl, h1.2 0 a v rfl rfl⟩
    | [], h1, _ => have := h1.1; simp at this
    | _ :: _ :: _, h1, _ => have := h1.1; simp at this
  have agg : (∃ cs, v = .agg cs ∧ cs.size = P.cellsOf t ∧ Row.okWide P w .any base t cs) → ∃ a, RV w (fun _ => False) (fun _ => False) id a v ∧ ∃ cs, a = .agg cs ∧ OkCells P D t cs := by
    rintro ⟨cs, rfl, _, _⟩
    refine ⟨.agg as, .agg as cs ?_ (fun i a v q1 q2 => h1.2 i a v q1 (by simpa [Value.cells] using q2)), as, rfl, h3⟩
    have := h1.1
    simpa [Value.cells] using this
  split at hv
  · rename_i hu; rw [hu]; exact agg hv
  · rename_i hu; rw [hu]; exact agg hv
  · rename_i hns hna
    have hcells : P.cellsOf t = 1 := by
      cases D with
      | zero => simp [plainTy] at hp
      | succ D =>
        unfold plainTy at hp
        split at hp
        all_goals first | (simp only [Bool.and_eq_true, beq_iff_eq] at hp; exact hp.1.1) | (simp only [beq_iff_eq] at hp; exact hp) | skip
        · rename_i fs hu; exact (hns fs hu).elim
        · rename_i n e hu; exact (hna n e hu).elim
        · cases hp
    have hnagg : ∀ vs, v ≠ .agg vs := by
      rintro vs rfl
      cases D with
      | zero => simp [plainTy] at hp
      | succ D =>
        unfold plainTy at hp
        unfold OkCells at h3
        simp only [Value.cells] at h1 hf
        split at hp
        all_goals rename_i hu
        all_goals first | (cases hp; done) | skip
        all_goals
          unfold Cell.okWide at hv
          rw [hu] at hv
          simp [Cell.ok, hu] at hv
        all_goals skip
    obtain ⟨a, rfl, ha⟩ := one hcells hnagg
    refine ⟨a, ha, ?_⟩
    split
    · rename_i fs hu; exact (hns fs hu).elim
    · rename_i n e hu; exact (hna n e hu).elim
    · exact h3
theorem open_args {D base : Nat} : ∀ (ts : List TypeId) (vs : List Value) (ds : List (DataW H)) (ps : List MemPlace), DataW.TrodAll enc P w 0 (fun _ => true) true ts vs ds ps →
    (∀ (j : Nat) t v, ts[j]? = some t → vs[j]? = some v → Value.okWide P w .any base t v) → (∀ t, t ∈ ts → plainTy P D t = true) → (∀ n, n ∈ DataW.weightsEach P ts ds → n ≤ reachBytes) →
    ∃ as, RL0 w as vs ∧ OkArgs P D ts as
  | [], vs, ds, ps, h, _, _, _ => by
    obtain ⟨rfl, _, _⟩ := trodAll_nil h
    exact ⟨[], ⟨rfl, by simp⟩, trivial⟩
  | t :: ts, vs, ds, ps, h, hv, hp, hw => by
    obtain ⟨v, vs', d, ds', p, q, rfl, rfl, rfl, h1, h2⟩ := trodAll_cons h
    simp only [DataW.weightsEach, List.mem_append] at hw
    obtain ⟨a, q1, q2⟩ := open_arg (hp t (by simp)) (hv 0 t v rfl rfl) h1 fun n hn => hw n (.inl hn)
    obtain ⟨as, p1, p2⟩ := open_args ts vs' ds' q h2 (fun j t v e1 e2 => hv (j + 1) t v (by simpa using e1) (by simpa using e2)) (fun t ht => hp t (by simp [ht])) fun n hn => hw n (.inr hn)
    refine ⟨a :: as, ⟨by simp [p1.1], fun i b u e1 e2 => ?_⟩, q2, p2⟩
    cases i with
    | zero => simp at e1 e2; subst e1 e2; exact q1
    | succ i => exact p1.2 i b u (by simpa using e1) (by simpa using e2)
theorem back_args (hl : laidOutB P = true) {w' : World} (hb : Below w.heap.size w w') : ∀ (ts : List TypeId) (vs : List Value) (ds : List (DataW H)) (ps : List MemPlace), (∀ t, t ∈ ts → P.readableRec t = true ∧ t < P.types.size) →
    DataW.TrodAll enc P w 0 (fun _ => true) true ts vs ds ps → DataW.TrodAll enc P w' 0 (fun b => decide (b < w.heap.size)) true ts vs ds ps
  | [], vs, ds, ps, _, h => by
    obtain ⟨rfl, rfl, rfl⟩ := trodAll_nil h
    exact trodAll_mk0
  | t :: ts, vs, ds, ps, hr, h => by
    obtain ⟨v, vs', d, ds', p, q, rfl, rfl, rfl, h1, h2⟩ := trodAll_cons h
    refine trodAll_cons_mk (Below.trod hl (hr t (by simp)).1 (hr t (by simp)).2 h1 hb ?_) (back_args hl hb ts vs' ds' q (fun t ht => hr t (by simp [ht])) h2)
    obtain ⟨n, hn⟩ := h1
    exact DataW.trod_lt n _ _ _ hn
theorem trodAll_length {ts : List TypeId} {vs : List Value} {ds : List (DataW H)} {ps : List MemPlace} (h : DataW.TrodAll enc P w 0 (fun _ => true) true ts vs ds ps) : ds.length = ts.length := by
  induction ts generalizing vs ds ps with
  | nil => obtain ⟨_, rfl, _⟩ := trodAll_nil h; rfl
  | cons t ts ih =>
    obtain ⟨v, vs', d, ds', p, q, rfl, rfl, rfl, h1, h2⟩ := trodAll_cons h
    simp [ih h2]
end
theorem law_row {H : Type} {enc : TypeId × Value → H} {C : Checked} {os : Os} {f : FuncId} {fn : Func} {s : ChangeSpec} {spec : List AV → Option AV} {D : Nat} {rt : TypeId} {conds : List PathCond}
    (own : ownKnob C.prog.godebug = none) (started : os.Started) (noInit : C.prog.inits.idxOf? f = none) (hfn : C.prog.funcs[f]? = some fn)
    (witness : ∃ (w : World) (tape : Tape) (i : Input), w.os = os ∧ (w.forCall tape i).Shaped C.prog ∧ i.vars = [] ∧ Input.okWide C.prog (w.forCall tape i) .any w.heap.size f i ∧
      s.pre6 enc C.prog fn conds false (w.forCall tape i).memory i.args ∧ Assume.holds {} C.prog (lone (Frame.enter C.prog f i.args .normal) [] (w.forCall tape i)))
    (hs : Sound C.prog f (.pure false spec)) (hl : laidOutB C.prog = true) (hplain : fn.params.toList.all (fun t => plainTy C.prog D t && C.prog.readableRec t && decide (t < C.prog.types.size)) = true)
    (hvars : s.vars = []) (hres : fn.resultTypes = #[rt]) (hrt : C.prog.underlying rt = some .bool) (hspec : ∀ ds : List (DataW H), ds.length = fn.params.size → s.fn H ds = { results := [.lit (.bool true)], args := ds })
    (hlaw : ∀ as, OkArgs C.prog D fn.params.toList as → spec as = some (.bool true)) :
    ReturnsInHanded {} C os f .any (s.pre6 enc C.prog fn conds false) (s.post enc C.prog fn false true false false) := by
  refine returnsInHanded_of_change_sized own started noInit hfn witness ?_
  intro W base args ds gs before hval hW _ hsz _
  have hW' := hW
  obtain ⟨p, q, hA, hV, rfl, _, _⟩ := hW
  rw [hvars] at hV
  obtain ⟨rfl, rfl⟩ := trodVars_none hV
  have hvt : s.plain.varTypes C.prog = [] := by
    simp [ChangeSpec.plain, DataSpec.varTypes, hvars]
  rw [hvt] at hsz
  simp only [List.append_nil] at hsz
  simp only [List.all_eq_true, Bool.and_eq_true, decide_eq_true_eq] at hplain hsz
  obtain ⟨as, h1, h2⟩ := open_args (D := D) (base := base) _ _ ds p hA (fun j t v e1 e2 => hval j t v (by simpa using e1) (by simpa using e2)) (fun t ht => (hplain t ht).1.1) (fun n hn => by simpa using hsz n hn)
  refine (hs.2 as _ (hlaw as h2) W (fun _ => False) args (fun _ h => h.elim) h1).mono ?_
  rintro e W' ⟨v, rfl, hb, hv⟩
  cases hv
  have hlen : ds.length = fn.params.size := by simpa using trodAll_length hA
  have hfn' := hspec (ds ++ []) (by simpa using hlen)
  refine ⟨_, rfl, ds, [], p ++ [], [], p, [], hW', ?_, ?_, ?_, hb.frame _, fun h => by cases h⟩
  · rw [hfn', hres]
    exact trodAll_mk1 (shut_bool hrt _)
  · rw [hfn']
    simp only [List.append_nil]
    exact back_args hl hb _ _ ds p (fun t ht => ⟨(hplain t ht).1.2, (hplain t ht).2⟩) hA
  · rw [hfn', hvars]; rfl
end Go.Abs
end
section
set_option linter.unusedSimpArgs false
set_option linter.unusedVariables false
namespace Go.Abs
theorem lift_some (v : AV) (H : AHeap) : lift (some v) H = some (v, H) := rfl
theorem liftS_some (H : AHeap) : liftS (some H) = some (.undef, H) := rfl
theorem areg_some (fr : AFr) (H : AHeap) : areg (some (fr, H)) = some (.normal, fr, H) := rfl
theorem aexit_normal (n : Nat) (fr : AFr) (H : AHeap) : aexit n (some (.normal, fr, H)) = some (.normal, fr, H) := rfl
theorem aexit_ret (n : Nat) (fr : AFr) (H : AHeap) : aexit n (some (.ret, fr, H)) = some (.ret, fr, H) := rfl
theorem aexit_exit (n k : Nat) (fr : AFr) (H : AHeap) : aexit n (some (.exit k, fr, H)) = if k = n then some (.normal, fr, H) else some (.exit k, fr, H) := rfl
theorem al_get (k t : Nat) (v : AV) (l : List (Nat × AV)) : AFr.al ((k, v) :: l) t = if t = k then v else AFr.al l t := rfl
theorem afinR_normal (g : AFr → AHeap → Option (List AV)) (fr : AFr) (H : AHeap) : afinR g (some (.normal, fr, H)) = match g fr H with | some l => some (l, H) | none => none := rfl
theorem afinR_ret (g : AFr → AHeap → Option (List AV)) (fr : AFr) (H : AHeap) : afinR g (some (.ret, fr, H)) = match g fr H with | some l => some (l, H) | none => none := rfl
theorem anil_ptr (b sz i j : Nat) : anil (.ptr b sz i j) = some (.ptr b sz i j) := rfl
theorem anil_rptr (sz : Nat) (rows : List (List AV)) (i j : Nat) : anil (.rptr sz rows i j) = some (.rptr sz rows i j) := rfl
theorem fieldAddr_ptr (o b sz i j : Nat) : afieldAddrR (some o) (.ptr b sz i j) = some (.ptr b sz i (j + o)) := rfl
theorem fieldAddr_rptr (o sz : Nat) (rows : List (List AV)) (i j : Nat) : afieldAddrR (some o) (.rptr sz rows i j) = some (.rptr sz rows i (j + o)) := rfl
theorem cells_int (k : IntKind) (n : Int) : (AV.int k n).cells? = some [.int k n] := (id rfl : _)
theorem cells_bool (x : Bool) : (AV.bool x).cells? = some [.bool x] := (id rfl : _)
theorem cells_sl (b sz off len : Nat) : (AV.sl b sz off len).cells? = some [.sl b sz off len] := (id rfl : _)
theorem cells_rsl (sz : Nat) (rows : List (List AV)) : (AV.rsl sz rows).cells? = some [.rsl sz rows] := (id rfl : _)
theorem cells_ptr (b sz i j : Nat) : (AV.ptr b sz i j).cells? = some [.ptr b sz i j] := (id rfl : _)
theorem cells_nils : AV.nils.cells? = some [.nils] := (id rfl : _)
theorem cells_agg (cs : List AV) : (AV.agg cs).cells? = some cs := (id rfl : _)
theorem isCell_int (k : IntKind) (n : Int) : (AV.int k n).isCell = true := (id rfl : _)
theorem isCell_bool (x : Bool) : (AV.bool x).isCell = true := (id rfl : _)
theorem isCell_sl (b sz off len : Nat) : (AV.sl b sz off len).isCell = true := (id rfl : _)
theorem isCell_rsl (sz : Nat) (rows : List (List AV)) : (AV.rsl sz rows).isCell = true := (id rfl : _)
theorem isCell_ptr (b sz i j : Nat) : (AV.ptr b sz i j).isCell = true := (id rfl : _)
theorem isCell_nils : AV.nils.isCell = true := (id rfl : _)
theorem flat_int (k : IntKind) (n : Int) : (AV.int k n).flat = true := (id rfl : _)
theorem flat_bool (x : Bool) : (AV.bool x).flat = true := (id rfl : _)
theorem flat_sl (b sz off len : Nat) : (AV.sl b sz off len).flat = false := (id rfl : _)
theorem flat_rsl (sz : Nat) (rows : List (List AV)) : (AV.rsl sz rows).flat = true := (id rfl : _)
theorem flat_ptr (b sz i j : Nat) : (AV.ptr b sz i j).flat = false := (id rfl : _)
theorem flat_nils : AV.nils.flat = true := (id rfl : _)
theorem set_set (H : AHeap) (b : Nat) (x y : Option Blk) : (H.set b x).set b y = H.set b y := by
  refine AHeap.eq_of rfl (funext fun c => ?_)
  simp only [AHeap.set]
  split <;> rfl
theorem readRow_cell (row : List AV) (j : Nat) : readRowR (some none) row j = row[j]? := rfl
theorem readRow_agg (n : Nat) (row : List AV) (j : Nat) : readRowR (some (some n)) row j = if j + n ≤ row.length then some (.agg ((row.drop j).take n)) else none := rfl
theorem bin_add (q : QK) (k : IntKind) (a b : Int) : abinR q .add (.int k a) (.int k b) = some (.int k (k.wrap (a + b))) := by simp [abinR, isShift, aarith]
theorem bin_sub (q : QK) (k : IntKind) (a b : Int) : abinR q .sub (.int k a) (.int k b) = some (.int k (k.wrap (a - b))) := by simp [abinR, isShift, aarith]
theorem bin_mul (q : QK) (k : IntKind) (a b : Int) : abinR q .mul (.int k a) (.int k b) = some (.int k (k.wrap (a * b))) := by simp [abinR, isShift, aarith]
theorem bin_eql (q : QK) (k : IntKind) (a b : Int) : abinR q .eql (.int k a) (.int k b) = some (.bool (a == b)) := by simp [abinR, isShift, aarith]
theorem bin_neq (q : QK) (k : IntKind) (a b : Int) : abinR q .neq (.int k a) (.int k b) = some (.bool (a != b)) := by simp [abinR, isShift, aarith]
theorem bin_lss (q : QK) (k : IntKind) (a b : Int) : abinR q .lss (.int k a) (.int k b) = some (.bool (a < b)) := by simp [abinR, isShift, aarith]
theorem bin_leq (q : QK) (k : IntKind) (a b : Int) : abinR q .leq (.int k a) (.int k b) = some (.bool (a ≤ b)) := by simp [abinR, isShift, aarith]
theorem bin_gtr (q : QK) (k : IntKind) (a b : Int) : abinR q .gtr (.int k a) (.int k b) = some (.bool (a > b)) := by simp [abinR, isShift, aarith]
theorem bin_geq (q : QK) (k : IntKind) (a b : Int) : abinR q .geq (.int k a) (.int k b) = some (.bool (a ≥ b)) := by simp [abinR, isShift, aarith]
theorem bin_and (q : QK) (k : IntKind) (a b : Int) : abinR q .and (.int k a) (.int k b) = some (.int k (k.wrap (BitVec.ofInt k.bits a &&& BitVec.ofInt k.bits b).toNat)) := by simp [abinR, isShift, aarith]
theorem bin_shl (q : QK) (k k' : IntKind) (a b : Int) (h : 0 ≤ b) : abinR q .shl (.int k a) (.int k' b) = some (.int k (k.wrap (a * 2 ^ (min b.toNat k.bits)))) := by
  have : ¬ b < 0 := by omega
  simp [abinR, isShift, ashift, this]
theorem bin_shr (q : QK) (k k' : IntKind) (a b : Int) (h : 0 ≤ b) : abinR q .shr (.int k a) (.int k' b) = some (.int k (a.fdiv (2 ^ (min b.toNat k.bits)))) := by
  have : ¬ b < 0 := by omega
  simp [abinR, isShift, ashift, this]
theorem bin_bool (o : BinOp) (a b : Bool) : abinR .b o (.bool a) (.bool b) = eqRes o (a == b) := rfl
theorem len_rsl (sz : Nat) (rows : List (List AV)) : alenR .sl (.rsl sz rows) = some (.int .i64 rows.length) := rfl
theorem len_sl (b sz off len : Nat) : alenR .sl (.sl b sz off len) = some (.int .i64 len) := rfl
theorem len_nils : alenR .sl .nils = some (.int .i64 0) := rfl
theorem extract_tup (vs : List AV) (i : Nat) : aextract (.tup vs) i = vs[i]? := rfl
theorem conv_int (k k' : IntKind) (n : Int) : aconvR (some k) (.int k' n) = some (.int k (k.wrap n)) := rfl
theorem not_bool (b : Bool) : aun .not (.bool b) = some (.bool !b) := rfl
theorem frzMask_nil (H : AHeap) (l : List (List (Option Nat))) (cs : List AV) : frzMask H [] l cs = some (cs, []) := rfl
theorem frzMask_false (H : AHeap) (ms : List Bool) (n : List (Option Nat)) (l : List (List (Option Nat))) (a : AV) (cs : List AV) :
    frzMask H (false :: ms) (n :: l) (a :: cs) = match frzMask H ms l cs with | some (cs', S') => some (a :: cs', S') | none => none := rfl
structure AHeap.OK (H : AHeap) : Prop where
  wf : H.WF
  ids : ∀ b blk, H.get b = some blk → ∀ row, row ∈ blk.rows → ∀ a, a ∈ row → idsBelow H.next a = true
theorem AHeap.OK.set {H : AHeap} {b : Nat} {x y : Blk} (h : H.OK) (hb : H.get b = some y) (hx : ∀ row, row ∈ x.rows → ∀ a, a ∈ row → idsBelow H.next a = true) : (H.set b (some x)).OK := by
  refine ⟨fun b' z hz => ?_, fun b' z hz => ?_⟩
  · rw [AHeap.get_set] at hz
    rw [AHeap.next_set]
    split at hz
    · rename_i e; subst e; exact h.wf _ _ hb
    · exact h.wf b' z hz
  · rw [AHeap.get_set] at hz
    rw [AHeap.next_set]
    split at hz
    · simp only [Option.some.injEq] at hz; subst hz; exact hx
    · exact h.ids b' z hz
theorem idsBelow_mono {n n' : Nat} {a : AV} (h : idsBelow n a = true) (hn : n ≤ n') : idsBelow n' a = true := by
  unfold idsBelow at h ⊢
  split at h
  · simp only [decide_eq_true_eq] at h ⊢; omega
  · simp only [decide_eq_true_eq] at h ⊢; omega
  · exact h
theorem AHeap.OK.push {H : AHeap} {x : Blk} (h : H.OK) (hx : ∀ row, row ∈ x.rows → ∀ a, a ∈ row → idsBelow (H.next + 1) a = true) : (H.push x).OK := by
  refine ⟨fun b' z hz => ?_, fun b' z hz => ?_⟩
  · rw [AHeap.get_push] at hz
    rw [AHeap.next_push]
    split at hz
    · omega
    · have := h.wf b' z hz; omega
  · rw [AHeap.get_push] at hz
    rw [AHeap.next_push]
    split at hz
    · simp only [Option.some.injEq] at hz; subst hz; exact hx
    · exact fun row hr a ha => idsBelow_mono (h.ids b' z hz row hr a ha) (by omega)
end Go.Abs
end
section
set_option linter.unusedSimpArgs false
set_option linter.unusedVariables false
namespace Go.Abs
def W8 (x : BitVec 8) : AV := .int .u8 (x.toNat : Int)
@[simp] theorem W8_isCell (x : BitVec 8) : (W8 x).isCell = true := rfl
@[simp] theorem W8_flat (x : BitVec 8) : (W8 x).flat = true := rfl
@[simp] theorem W8_noSlC (x : BitVec 8) : (W8 x).noSlC = true := rfl
@[simp] theorem W8_cells (x : BitVec 8) : (W8 x).cells? = some [W8 x] := rfl
def W16 (x : BitVec 16) : AV := .int .u16 (x.toNat : Int)
theorem W16_wrap (z : Int) : AV.int .u16 (IntKind.u16.wrap z) = W16 (BitVec.ofInt 16 z) := by
  have : IntKind.u16.wrap z = ((BitVec.ofInt 16 z).toNat : Int) := by
    rw [BitVec.toNat_ofInt, Int.toNat_of_nonneg (Int.emod_nonneg _ (by decide))]
    simp [IntKind.wrap, IntKind.bits, IntKind.signed]
  rw [this]; rfl
@[simp] theorem W16_isCell (x : BitVec 16) : (W16 x).isCell = true := rfl
@[simp] theorem W16_flat (x : BitVec 16) : (W16 x).flat = true := rfl
@[simp] theorem W16_noSlC (x : BitVec 16) : (W16 x).noSlC = true := rfl
@[simp] theorem W16_cells (x : BitVec 16) : (W16 x).cells? = some [W16 x] := rfl
@[simp] theorem W16_inj (x y : BitVec 16) : (W16 x = W16 y) = (x = y) := by
  refine propext ⟨fun h => ?_, fun h => h ▸ rfl⟩
  simp only [W16, AV.int.injEq, true_and] at h
  exact BitVec.eq_of_toNat_eq (by omega)
def W32 (x : BitVec 32) : AV := .int .u32 (x.toNat : Int)
theorem W32_wrap (z : Int) : AV.int .u32 (IntKind.u32.wrap z) = W32 (BitVec.ofInt 32 z) := by
  have : IntKind.u32.wrap z = ((BitVec.ofInt 32 z).toNat : Int) := by
    rw [BitVec.toNat_ofInt, Int.toNat_of_nonneg (Int.emod_nonneg _ (by decide))]
    simp [IntKind.wrap, IntKind.bits, IntKind.signed]
  rw [this]; rfl
theorem W32_of (n : Int) (h0 : 0 ≤ n) (h1 : n < 4294967296) : AV.int .u32 n = W32 (BitVec.ofInt 32 n) := by
  rw [← W32_wrap, show IntKind.u32.wrap n = n from by simp [IntKind.wrap, IntKind.bits, IntKind.signed]; omega]
@[simp] theorem W32_isCell (x : BitVec 32) : (W32 x).isCell = true := rfl
@[simp] theorem W32_flat (x : BitVec 32) : (W32 x).flat = true := rfl
@[simp] theorem W32_noSlC (x : BitVec 32) : (W32 x).noSlC = true := rfl
@[simp] theorem W32_cells (x : BitVec 32) : (W32 x).cells? = some [W32 x] := rfl
@[simp] theorem W32_inj (x y : BitVec 32) : (W32 x = W32 y) = (x = y) := by
  refine propext ⟨fun h => ?_, fun h => h ▸ rfl⟩
  simp only [W32, AV.int.injEq, true_and] at h
  exact BitVec.eq_of_toNat_eq (by omega)
def W64 (x : BitVec 64) : AV := .int .u64 (x.toNat : Int)
theorem W64_wrap (z : Int) : AV.int .u64 (IntKind.u64.wrap z) = W64 (BitVec.ofInt 64 z) := by
  have : IntKind.u64.wrap z = ((BitVec.ofInt 64 z).toNat : Int) := by
    rw [BitVec.toNat_ofInt, Int.toNat_of_nonneg (Int.emod_nonneg _ (by decide))]
    simp [IntKind.wrap, IntKind.bits, IntKind.signed]
  rw [this]; rfl
@[simp] theorem W64_isCell (x : BitVec 64) : (W64 x).isCell = true := rfl
@[simp] theorem W64_flat (x : BitVec 64) : (W64 x).flat = true := rfl
@[simp] theorem W64_noSlC (x : BitVec 64) : (W64 x).noSlC = true := rfl
@[simp] theorem W64_cells (x : BitVec 64) : (W64 x).cells? = some [W64 x] := rfl
@[simp] theorem W64_inj (x y : BitVec 64) : (W64 x = W64 y) = (x = y) := by
  refine propext ⟨fun h => ?_, fun h => h ▸ rfl⟩
  simp only [W64, AV.int.injEq, true_and] at h
  exact BitVec.eq_of_toNat_eq (by omega)
@[simp] theorem W8_eql (q : QK) (x y : BitVec 8) : abinR q .eql (W8 x) (W8 y) = some (.bool (x == y)) := by
  show some (AV.bool ((x.toNat : Int) == y.toNat)) = _
  congr 2; rw [Bool.eq_iff_iff]; simp only [beq_iff_eq]; exact ⟨fun h => BitVec.eq_of_toNat_eq (by omega), fun h => h ▸ rfl⟩
@[simp] theorem W8_neq (q : QK) (x y : BitVec 8) : abinR q .neq (W8 x) (W8 y) = some (.bool (x != y)) := by
  show some (AV.bool ((x.toNat : Int) != y.toNat)) = _
  congr 2; rw [Bool.eq_iff_iff]; simp only [bne_iff_ne, ne_eq]; exact ⟨fun h e => h (e ▸ rfl), fun h e => h (BitVec.eq_of_toNat_eq (by omega))⟩
@[simp] theorem W16_sub (q : QK) (x y : BitVec 16) : abinR q .sub (W16 x) (W16 y) = some (W16 (x - y)) := by
  show some (AV.int .u16 (IntKind.u16.wrap _)) = _
  rw [W16_wrap, show BitVec.ofInt 16 _ = x - y from by apply BitVec.eq_of_toNat_eq; simp [BitVec.toNat_ofInt, BitVec.toNat_add, BitVec.toNat_sub, BitVec.toNat_mul]; omega]
@[simp] theorem W16_and (q : QK) (x y : BitVec 16) : abinR q .and (W16 x) (W16 y) = some (W16 (x &&& y)) := by
  show some (AV.int .u16 (IntKind.u16.wrap ((_ : BitVec 16).toNat : Int))) = _
  rw [W16_wrap]; simp [IntKind.bits]; try rfl
@[simp] theorem W16_or (q : QK) (x y : BitVec 16) : abinR q .or (W16 x) (W16 y) = some (W16 (x ||| y)) := by
  show some (AV.int .u16 (IntKind.u16.wrap ((_ : BitVec 16).toNat : Int))) = _
  rw [W16_wrap]; simp [IntKind.bits]; try rfl
@[simp] theorem W16_eql (q : QK) (x y : BitVec 16) : abinR q .eql (W16 x) (W16 y) = some (.bool (x == y)) := by
  show some (AV.bool ((x.toNat : Int) == y.toNat)) = _
  congr 2; rw [Bool.eq_iff_iff]; simp only [beq_iff_eq]; exact ⟨fun h => BitVec.eq_of_toNat_eq (by omega), fun h => h ▸ rfl⟩
@[simp] theorem W16_shl (q : QK) (x : BitVec 16) (k' : IntKind) (c : Int) (h : 0 ≤ c) : abinR q .shl (W16 x) (.int k' c) = some (W16 (x <<< c.toNat)) := by
  unfold W16; rw [bin_shl _ _ _ _ _ h, W16_wrap]
  have : BitVec.ofInt 16 ((x.toNat : Int) * 2 ^ min c.toNat (IntKind.bits .u16)) = x <<< c.toNat := by
    apply BitVec.eq_of_toNat_eq
    rw [show ((x.toNat : Int) * 2 ^ min c.toNat (IntKind.bits .u16)) = ((x.toNat * 2 ^ min c.toNat (IntKind.bits .u16) : Nat) : Int) from by simp, BitVec.ofInt_natCast, BitVec.toNat_ofNat, BitVec.toNat_shiftLeft, Nat.shiftLeft_eq]
    by_cases hc : c.toNat ≤ 16
    · rw [show min c.toNat (IntKind.bits .u16) = c.toNat from by simp [IntKind.bits]; omega]
    · rw [show min c.toNat (IntKind.bits .u16) = 16 from by simp [IntKind.bits]; omega, show c.toNat = 16 + (c.toNat - 16) from by omega, Nat.pow_add, ← Nat.mul_assoc, Nat.mul_right_comm, Nat.mul_mod_left, Nat.mul_mod_left]
  rw [this]; rfl
@[simp] theorem W16_shr (q : QK) (x : BitVec 16) (k' : IntKind) (c : Int) (h : 0 ≤ c) : abinR q .shr (W16 x) (.int k' c) = some (W16 (x >>> c.toNat)) := by
  unfold W16; rw [bin_shr _ _ _ _ _ h]
  have : (x.toNat : Int).fdiv (2 ^ min c.toNat (IntKind.bits .u16)) = ((x >>> c.toNat).toNat : Int) := by
    rw [BitVec.toNat_ushiftRight, Nat.shiftRight_eq_div_pow, Int.fdiv_eq_ediv_of_nonneg _ (by simp [Int.pow_nonneg]), show ((x.toNat : Int) / 2 ^ min c.toNat (IntKind.bits .u16)) = ((x.toNat / 2 ^ min c.toNat (IntKind.bits .u16) : Nat) : Int) from by simp]
    by_cases hc : c.toNat ≤ 16
    · rw [show min c.toNat (IntKind.bits .u16) = c.toNat from by simp [IntKind.bits]; omega]
    · have hx := x.isLt
      rw [show min c.toNat (IntKind.bits .u16) = 16 from by simp [IntKind.bits]; omega, Nat.div_eq_of_lt hx, Nat.div_eq_of_lt (Nat.lt_of_lt_of_le hx (Nat.pow_le_pow_right (by decide) (by omega)))]
  rw [this]
@[simp] theorem W16_ofInt (k' : IntKind) (z : Int) : aconvR (some .u16) (.int k' z) = some (W16 (BitVec.ofInt 16 z)) := by
  rw [conv_int, W16_wrap]
@[simp] theorem W32_of_W16 (x : BitVec 16) : aconvR (some .u32) (W16 x) = some (W32 (x.setWidth 32)) := by
  unfold W16; rw [conv_int, W32_wrap, BitVec.ofInt_natCast, BitVec.ofNat_toNat]; try rfl
@[simp] theorem i64_of_W16 (x : BitVec 16) : aconvR (some .i64) (W16 x) = some (.int .i64 (x.toNat : Int)) := by
  unfold W16; rw [conv_int, IntWalk.i64_in _ (by have := x.isLt; omega)]
@[simp] theorem W16_shl_W64 (q : QK) (x : BitVec 16) (y : BitVec 64) : abinR q .shl (W16 x) (W64 y) = some (W16 (x <<< y.toNat)) := by
  rw [show W64 y = .int .u64 y.toNat from rfl, W16_shl _ _ _ _ (by omega)]; rfl
@[simp] theorem W32_add (q : QK) (x y : BitVec 32) : abinR q .add (W32 x) (W32 y) = some (W32 (x + y)) := by
  show some (AV.int .u32 (IntKind.u32.wrap _)) = _
  rw [W32_wrap, show BitVec.ofInt 32 _ = x + y from by apply BitVec.eq_of_toNat_eq; simp [BitVec.toNat_ofInt, BitVec.toNat_add, BitVec.toNat_sub, BitVec.toNat_mul]; omega]
@[simp] theorem W32_sub (q : QK) (x y : BitVec 32) : abinR q .sub (W32 x) (W32 y) = some (W32 (x - y)) := by
  show some (AV.int .u32 (IntKind.u32.wrap _)) = _
  rw [W32_wrap, show BitVec.ofInt 32 _ = x - y from by apply BitVec.eq_of_toNat_eq; simp [BitVec.toNat_ofInt, BitVec.toNat_add, BitVec.toNat_sub, BitVec.toNat_mul]; omega]
@[simp] theorem W32_mul (q : QK) (x y : BitVec 32) : abinR q .mul (W32 x) (W32 y) = some (W32 (x * y)) := by
  show some (AV.int .u32 (IntKind.u32.wrap _)) = _
  rw [W32_wrap, show BitVec.ofInt 32 _ = x * y from by apply BitVec.eq_of_toNat_eq; simp [BitVec.toNat_ofInt, BitVec.toNat_add, BitVec.toNat_sub, BitVec.toNat_mul]; rw [← Int.natCast_mul]; omega]
@[simp] theorem W32_and (q : QK) (x y : BitVec 32) : abinR q .and (W32 x) (W32 y) = some (W32 (x &&& y)) := by
  show some (AV.int .u32 (IntKind.u32.wrap ((_ : BitVec 32).toNat : Int))) = _
  rw [W32_wrap]; simp [IntKind.bits]; try rfl
@[simp] theorem W32_or (q : QK) (x y : BitVec 32) : abinR q .or (W32 x) (W32 y) = some (W32 (x ||| y)) := by
  show some (AV.int .u32 (IntKind.u32.wrap ((_ : BitVec 32).toNat : Int))) = _
  rw [W32_wrap]; simp [IntKind.bits]; try rfl
@[simp] theorem W32_xor (q : QK) (x y : BitVec 32) : abinR q .xor (W32 x) (W32 y) = some (W32 (x ^^^ y)) := by
  show some (AV.int .u32 (IntKind.u32.wrap ((_ : BitVec 32).toNat : Int))) = _
  rw [W32_wrap]; simp [IntKind.bits]; try rfl
@[simp] theorem W32_andNot (q : QK) (x y : BitVec 32) : abinR q .andNot (W32 x) (W32 y) = some (W32 (x &&& ~~~ y)) := by
  show some (AV.int .u32 (IntKind.u32.wrap ((_ : BitVec 32).toNat : Int))) = _
  rw [W32_wrap]; simp [IntKind.bits]; try rfl
@[simp] theorem W32_quo (q : QK) (x y : BitVec 32) : abinR q .quo (W32 x) (W32 y) = if y = 0#32 then none else some (W32 (x / y)) := by
  by_cases h : y = 0#32
  · subst h; rfl
  rw [if_neg h]
  have hy : (y.toNat : Int) ≠ 0 := fun e => h (BitVec.eq_of_toNat_eq (by simpa using e))
  show (if (y.toNat : Int) = 0 then none else some (AV.int .u32 (IntKind.u32.wrap ((x.toNat : Int).tdiv y.toNat)))) = _
  rw [if_neg hy, W32_wrap, show ((x.toNat : Int)).tdiv y.toNat = ((x.toNat / y.toNat : Nat) : Int) from rfl, ← BitVec.toNat_udiv, BitVec.ofInt_natCast, BitVec.ofNat_toNat, BitVec.setWidth_eq]
@[simp] theorem W32_rem (q : QK) (x y : BitVec 32) : abinR q .rem (W32 x) (W32 y) = if y = 0#32 then none else some (W32 (x % y)) := by
  by_cases h : y = 0#32
  · subst h; rfl
  rw [if_neg h]
  have hy : (y.toNat : Int) ≠ 0 := fun e => h (BitVec.eq_of_toNat_eq (by simpa using e))
  show (if (y.toNat : Int) = 0 then none else some (AV.int .u32 ((x.toNat : Int).tmod y.toNat))) = _
  rw [if_neg hy, show (x.toNat : Int).tmod y.toNat = ((x.toNat % y.toNat : Nat) : Int) from rfl, ← BitVec.toNat_umod]; rfl
@[simp] theorem W32_eql (q : QK) (x y : BitVec 32) : abinR q .eql (W32 x) (W32 y) = some (.bool (x == y)) := by
  show some (AV.bool ((x.toNat : Int) == y.toNat)) = _
  congr 2; rw [Bool.eq_iff_iff]; simp only [beq_iff_eq]; exact ⟨fun h => BitVec.eq_of_toNat_eq (by omega), fun h => h ▸ rfl⟩
@[simp] theorem W32_neq (q : QK) (x y : BitVec 32) : abinR q .neq (W32 x) (W32 y) = some (.bool (x != y)) := by
  show some (AV.bool ((x.toNat : Int) != y.toNat)) = _
  congr 2; rw [Bool.eq_iff_iff]; simp only [bne_iff_ne, ne_eq]; exact ⟨fun h e => h (e ▸ rfl), fun h e => h (BitVec.eq_of_toNat_eq (by omega))⟩
@[simp] theorem W32_leq (q : QK) (x y : BitVec 32) : abinR q .leq (W32 x) (W32 y) = some (.bool (decide (x ≤ y))) := by
  show some (AV.bool (decide ((x.toNat : Int) ≤ y.toNat))) = _
  simp [BitVec.le_def]
@[simp] theorem W32_geq (q : QK) (x y : BitVec 32) : abinR q .geq (W32 x) (W32 y) = some (.bool (decide (y ≤ x))) := by
  show some (AV.bool (decide ((x.toNat : Int) ≥ y.toNat))) = _
  simp [BitVec.le_def]
@[simp] theorem W32_shl (q : QK) (x : BitVec 32) (k' : IntKind) (c : Int) (h : 0 ≤ c) : abinR q .shl (W32 x) (.int k' c) = some (W32 (x <<< c.toNat)) := by
  unfold W32; rw [bin_shl _ _ _ _ _ h, W32_wrap]
  have : BitVec.ofInt 32 ((x.toNat : Int) * 2 ^ min c.toNat (IntKind.bits .u32)) = x <<< c.toNat := by
    apply BitVec.eq_of_toNat_eq
    rw [show ((x.toNat : Int) * 2 ^ min c.toNat (IntKind.bits .u32)) = ((x.toNat * 2 ^ min c.toNat (IntKind.bits .u32) : Nat) : Int) from by simp, BitVec.ofInt_natCast, BitVec.toNat_ofNat, BitVec.toNat_shiftLeft, Nat.shiftLeft_eq]
    by_cases hc : c.toNat ≤ 32
    · rw [show min c.toNat (IntKind.bits .u32) = c.toNat from by simp [IntKind.bits]; omega]
    · rw [show min c.toNat (IntKind.bits .u32) = 32 from by simp [IntKind.bits]; omega, show c.toNat = 32 + (c.toNat - 32) from by omega, Nat.pow_add, ← Nat.mul_assoc, Nat.mul_right_comm, Nat.mul_mod_left, Nat.mul_mod_left]
  rw [this]; rfl
@[simp] theorem W32_shr (q : QK) (x : BitVec 32) (k' : IntKind) (c : Int) (h : 0 ≤ c) : abinR q .shr (W32 x) (.int k' c) = some (W32 (x >>> c.toNat)) := by
  unfold W32; rw [bin_shr _ _ _ _ _ h]
  have : (x.toNat : Int).fdiv (2 ^ min c.toNat (IntKind.bits .u32)) = ((x >>> c.toNat).toNat : Int) := by
    rw [BitVec.toNat_ushiftRight, Nat.shiftRight_eq_div_pow, Int.fdiv_eq_ediv_of_nonneg _ (by simp [Int.pow_nonneg]), show ((x.toNat : Int) / 2 ^ min c.toNat (IntKind.bits .u32)) = ((x.toNat / 2 ^ min c.toNat (IntKind.bits .u32) : Nat) : Int) from by simp]
    by_cases hc : c.toNat ≤ 32
    · rw [show min c.toNat (IntKind.bits .u32) = c.toNat from by simp [IntKind.bits]; omega]
    · have hx := x.isLt
      rw [show min c.toNat (IntKind.bits .u32) = 32 from by simp [IntKind.bits]; omega, Nat.div_eq_of_lt hx, Nat.div_eq_of_lt (Nat.lt_of_lt_of_le hx (Nat.pow_le_pow_right (by decide) (by omega)))]
  rw [this]
@[simp] theorem W32_not (x : BitVec 32) : aun .xor (W32 x) = some (W32 (~~~ x)) := by
  show some (AV.int .u32 (IntKind.u32.wrap ((BitVec.ofInt 32 _ ^^^ BitVec.ofInt 32 _).toNat : Int))) = _
  rw [W32_wrap, show (BitVec.ofInt 32 _ ^^^ BitVec.ofInt 32 _ : BitVec 32) = ~~~ x from by
    rw [show (if IntKind.signed .u32 = true then (-1 : Int) else IntKind.max .u32) = 4294967295 from rfl, show BitVec.ofInt 32 4294967295 = BitVec.allOnes 32 from rfl, BitVec.ofInt_natCast, BitVec.ofNat_toNat, BitVec.setWidth_eq, BitVec.allOnes_xor], BitVec.ofInt_natCast, BitVec.ofNat_toNat, BitVec.setWidth_eq]
@[simp] theorem W32_ofInt (k' : IntKind) (z : Int) : aconvR (some .u32) (.int k' z) = some (W32 (BitVec.ofInt 32 z)) := by
  rw [conv_int, W32_wrap]
@[simp] theorem W64_of_W32 (x : BitVec 32) : aconvR (some .u64) (W32 x) = some (W64 (x.setWidth 64)) := by
  unfold W32; rw [conv_int, W64_wrap, BitVec.ofInt_natCast, BitVec.ofNat_toNat]; try rfl
@[simp] theorem i64_of_W32 (x : BitVec 32) : aconvR (some .i64) (W32 x) = some (.int .i64 (x.toNat : Int)) := by
  unfold W32; rw [conv_int, IntWalk.i64_in _ (by have := x.isLt; omega)]
@[simp] theorem W32_shl_W32 (q : QK) (x : BitVec 32) (y : BitVec 32) : abinR q .shl (W32 x) (W32 y) = some (W32 (x <<< y.toNat)) := by
  rw [show W32 y = .int .u32 y.toNat from rfl, W32_shl _ _ _ _ (by omega)]; rfl
@[simp] theorem W32_shr_W32 (q : QK) (x : BitVec 32) (y : BitVec 32) : abinR q .shr (W32 x) (W32 y) = some (W32 (x >>> y.toNat)) := by
  rw [show W32 y = .int .u32 y.toNat from rfl, W32_shr _ _ _ _ (by omega)]; rfl
@[simp] theorem W32_shl_W64 (q : QK) (x : BitVec 32) (y : BitVec 64) : abinR q .shl (W32 x) (W64 y) = some (W32 (x <<< y.toNat)) := by
  rw [show W64 y = .int .u64 y.toNat from rfl, W32_shl _ _ _ _ (by omega)]; rfl
@[simp] theorem W32_shr_W64 (q : QK) (x : BitVec 32) (y : BitVec 64) : abinR q .shr (W32 x) (W64 y) = some (W32 (x >>> y.toNat)) := by
  rw [show W64 y = .int .u64 y.toNat from rfl, W32_shr _ _ _ _ (by omega)]; rfl
@[simp] theorem W64_add (q : QK) (x y : BitVec 64) : abinR q .add (W64 x) (W64 y) = some (W64 (x + y)) := by
  show some (AV.int .u64 (IntKind.u64.wrap _)) = _
  rw [W64_wrap, show BitVec.ofInt 64 _ = x + y from by apply BitVec.eq_of_toNat_eq; simp [BitVec.toNat_ofInt, BitVec.toNat_add, BitVec.toNat_sub, BitVec.toNat_mul]; omega]
@[simp] theorem W64_sub (q : QK) (x y : BitVec 64) : abinR q .sub (W64 x) (W64 y) = some (W64 (x - y)) := by
  show some (AV.int .u64 (IntKind.u64.wrap _)) = _
  rw [W64_wrap, show BitVec.ofInt 64 _ = x - y from by apply BitVec.eq_of_toNat_eq; simp [BitVec.toNat_ofInt, BitVec.toNat_add, BitVec.toNat_sub, BitVec.toNat_mul]; omega]
@[simp] theorem W64_and (q : QK) (x y : BitVec 64) : abinR q .and (W64 x) (W64 y) = some (W64 (x &&& y)) := by
  show some (AV.int .u64 (IntKind.u64.wrap ((_ : BitVec 64).toNat : Int))) = _
  rw [W64_wrap]; simp [IntKind.bits]; try rfl
@[simp] theorem W64_shr (q : QK) (x : BitVec 64) (k' : IntKind) (c : Int) (h : 0 ≤ c) : abinR q .shr (W64 x) (.int k' c) = some (W64 (x >>> c.toNat)) := by
  unfold W64; rw [bin_shr _ _ _ _ _ h]
  have : (x.toNat : Int).fdiv (2 ^ min c.toNat (IntKind.bits .u64)) = ((x >>> c.toNat).toNat : Int) := by
    rw [BitVec.toNat_ushiftRight, Nat.shiftRight_eq_div_pow, Int.fdiv_eq_ediv_of_nonneg _ (by simp [Int.pow_nonneg]), show ((x.toNat : Int) / 2 ^ min c.toNat (IntKind.bits .u64)) = ((x.toNat / 2 ^ min c.toNat (IntKind.bits .u64) : Nat) : Int) from by simp]
    by_cases hc : c.toNat ≤ 64
    · rw [show min c.toNat (IntKind.bits .u64) = c.toNat from by simp [IntKind.bits]; omega]
    · have hx := x.isLt
      rw [show min c.toNat (IntKind.bits .u64) = 64 from by simp [IntKind.bits]; omega, Nat.div_eq_of_lt hx, Nat.div_eq_of_lt (Nat.lt_of_lt_of_le hx (Nat.pow_le_pow_right (by decide) (by omega)))]
  rw [this]
@[simp] theorem W64_ofInt (k' : IntKind) (z : Int) : aconvR (some .u64) (.int k' z) = some (W64 (BitVec.ofInt 64 z)) := by
  rw [conv_int, W64_wrap]
@[simp] theorem W32_of_W64 (x : BitVec 64) : aconvR (some .u32) (W64 x) = some (W32 (x.setWidth 32)) := by
  unfold W64; rw [conv_int, W32_wrap, BitVec.ofInt_natCast, BitVec.ofNat_toNat]; try rfl
@[simp] theorem W64_shr_W64 (q : QK) (x : BitVec 64) (y : BitVec 64) : abinR q .shr (W64 x) (W64 y) = some (W64 (x >>> y.toNat)) := by
  rw [show W64 y = .int .u64 y.toNat from rfl, W64_shr _ _ _ _ (by omega)]; rfl
end Go.Abs
end
section
set_option linter.unusedSimpArgs false
set_option linter.unusedVariables false
namespace Go.Abs
class Cont (β : Type) where
  run : AV → AHeap → Option β
class ContF where
  run : AFr → AHeap → ARes
class Later (α : Type) where
  it : α
def opi {β : Type} (x : Option (AV × AHeap)) [K : Cont β] : Option β := op x K.run
def aseqi (r : ARes) [K : ContF] : ARes := aseq r K.run
def acondi (v : AV) [X : Later ARes] [Y : Later ARes] : ARes := acond v X.it Y.it
def gdi (g : Option Bool) [X : Later (Option (AV × AHeap))] (H : AHeap) : Option (AV × AHeap) := gd g X.it H
def o' {β : Type} (x : Option (AV × AHeap)) (K : Cont β) : Option β := op x K.run
def q' {β : Type} (x : Option AV) (H : AHeap) (K : Cont β) : Option β := op (lift x H) K.run
def w' {β : Type} (x : Option AHeap) (K : Cont β) : Option β := op (liftS x) K.run
def s' (r : ARes) (K : ContF) : ARes := aseq r K.run
def c' (v : AV) (X Y : Later ARes) : ARes := acond v X.it Y.it
def g' (g : Option Bool) (X : Later (Option (AV × AHeap))) (H : AHeap) : Option (AV × AHeap) := gd g X.it H
def G' {β : Type} (v : AV) (b : Bool) (X : Later (Option AV)) (H : AHeap) (K : Cont β) : Option β := op (gd (gw v b) (lift X.it H) H) K.run
def e' (l : List (Nat × AV)) (H : AHeap) : Option (AFr × AHeap) := some (AFr.al l, H)
def ld' (a : AV) (H : AHeap) : Option AV := aloadR (some none) a H
def Ld' (n : Nat) (a : AV) (H : AHeap) : Option AV := aloadR (some (some n)) a H
def fa' (n : Nat) (a : AV) : Option AV := afieldAddrR (some n) a
def bn' (o : BinOp) (a b : AV) : Option AV := abinR .x o a b
@[simp ↓] theorem ld'_eq (a : AV) (H : AHeap) : ld' a H = aloadR (some none) a H := rfl
@[simp ↓] theorem Ld'_eq (n : Nat) (a : AV) (H : AHeap) : Ld' n a H = aloadR (some (some n)) a H := rfl
@[simp ↓] theorem fa'_eq (n : Nat) (a : AV) : fa' n a = afieldAddrR (some n) a := rfl
@[simp ↓] theorem bn'_eq (o : BinOp) (a b : AV) : bn' o a b = abinR .x o a b := rfl
@[simp ↓] theorem o'_eq {β : Type} (x : Option (AV × AHeap)) (k : AV → AHeap → Option β) : o' x ⟨k⟩ = @opi β x ⟨k⟩ := rfl
@[simp ↓] theorem q'_eq {β : Type} (x : Option AV) (H : AHeap) (k : AV → AHeap → Option β) : q' x H ⟨k⟩ = @opi β (lift x H) ⟨k⟩ := rfl
@[simp ↓] theorem w'_eq {β : Type} (x : Option AHeap) (k : AV → AHeap → Option β) : w' x ⟨k⟩ = @opi β (liftS x) ⟨k⟩ := rfl
@[simp ↓] theorem s'_eq (r : ARes) (k : AFr → AHeap → ARes) : s' r ⟨k⟩ = @aseqi r ⟨k⟩ := rfl
@[simp ↓] theorem c'_eq (v : AV) (x y : ARes) : c' v ⟨x⟩ ⟨y⟩ = @acondi v ⟨x⟩ ⟨y⟩ := rfl
@[simp ↓] theorem g'_eq (g : Option Bool) (x : Option (AV × AHeap)) (H : AHeap) : g' g ⟨x⟩ H = @gdi g ⟨x⟩ H := rfl
@[simp ↓] theorem G'_eq {β : Type} (v : AV) (b : Bool) (x : Option AV) (H : AHeap) (k : AV → AHeap → Option β) : G' v b ⟨x⟩ H ⟨k⟩ = @opi β (@gdi (gw v b) ⟨lift x H⟩ H) ⟨k⟩ := rfl
@[simp ↓] theorem e'_eq (l : List (Nat × AV)) (H : AHeap) : e' l H = some (AFr.al l, H) := rfl
@[simp] theorem opi_some {β : Type} (v : AV) (H : AHeap) (k : AV → AHeap → Option β) : @opi β (some (v, H)) ⟨k⟩ = k v H := rfl
@[simp] theorem aseqi_normal (fr : AFr) (H : AHeap) (k : AFr → AHeap → ARes) : @aseqi (some (.normal, fr, H)) ⟨k⟩ = k fr H := rfl
@[simp] theorem aseqi_exit (n : Nat) (fr : AFr) (H : AHeap) (k : AFr → AHeap → ARes) : @aseqi (some (.exit n, fr, H)) ⟨k⟩ = some (.exit n, fr, H) := rfl
@[simp] theorem aseqi_ret (fr : AFr) (H : AHeap) (k : AFr → AHeap → ARes) : @aseqi (some (.ret, fr, H)) ⟨k⟩ = some (.ret, fr, H) := rfl
@[simp] theorem acondi_true (x y : ARes) : @acondi (.bool true) ⟨x⟩ ⟨y⟩ = x := rfl
@[simp] theorem acondi_false (x y : ARes) : @acondi (.bool false) ⟨x⟩ ⟨y⟩ = y := rfl
noncomputable def acondp (p : Prop) [X : Later ARes] [Y : Later ARes] : ARes := @ite _ p (Classical.propDecidable p) X.it Y.it
noncomputable def acondO {α : Type} (p : Prop) [X : Later (Option α)] [Y : Later (Option α)] : Option α := @ite _ p (Classical.propDecidable p) X.it Y.it
@[simp low] theorem acondi_bool (b : Bool) (x y : ARes) : @acondi (.bool b) ⟨x⟩ ⟨y⟩ = @acondp (b = true) ⟨x⟩ ⟨y⟩ := by
  show (if b = true then x else y) = @ite _ (b = true) (Classical.propDecidable _) x y
  congr
@[simp] theorem acondp_true (x y : ARes) : @acondp True ⟨x⟩ ⟨y⟩ = x := if_pos trivial
@[simp] theorem acondp_false (x y : ARes) : @acondp False ⟨x⟩ ⟨y⟩ = y := if_neg id
@[simp low] theorem acondp_pos (p : Prop) (x y : ARes) (h : p) : @acondp p ⟨x⟩ ⟨y⟩ = x := if_pos h
@[simp] theorem acondO_true {α : Type} (x y : Option α) : @acondO α True ⟨x⟩ ⟨y⟩ = x := if_pos trivial
@[simp] theorem acondO_false {α : Type} (x y : Option α) : @acondO α False ⟨x⟩ ⟨y⟩ = y := if_neg id
@[simp low] theorem acondO_pos {α : Type} (p : Prop) (x y : Option α) (h : p) : @acondO α p ⟨x⟩ ⟨y⟩ = x := if_pos h
@[simp low] theorem acondO_neg {α : Type} (p : Prop) (x y : Option α) (h : ¬ p) : @acondO α p ⟨x⟩ ⟨y⟩ = y := if_neg h
theorem acondO_elim {α : Type} {p : Prop} {x y z : Option α} (h1 : p → x = z) (h2 : ¬ p → y = z) : @acondO α p ⟨x⟩ ⟨y⟩ = z := by
  by_cases h : p
  · rw [acondO_pos _ _ _ h]; exact h1 h
  · rw [acondO_neg _ _ _ h]; exact h2 h
@[simp] theorem aseqi_cond (p : Prop) (x y : ARes) (k : AFr → AHeap → ARes) : @aseqi (@acondp p ⟨x⟩ ⟨y⟩) ⟨k⟩ = @acondp p ⟨@aseqi x ⟨k⟩⟩ ⟨@aseqi y ⟨k⟩⟩ := by
  by_cases h : p <;> simp only [h, acondp_true, acondp_false]
@[simp] theorem aexit_cond (n : Nat) (p : Prop) (x y : ARes) : aexit n (@acondp p ⟨x⟩ ⟨y⟩) = @acondp p ⟨aexit n x⟩ ⟨aexit n y⟩ := by
  by_cases h : p <;> simp only [h, acondp_true, acondp_false]
@[simp] theorem afinR_cond (g : AFr → AHeap → Option (List AV)) (p : Prop) (x y : ARes) : afinR g (@acondp p ⟨x⟩ ⟨y⟩) = @acondO _ p ⟨afinR g x⟩ ⟨afinR g y⟩ := by
  by_cases h : p <;> simp only [h, acondp_true, acondp_false, acondO_true, acondO_false]
@[simp] theorem closeUpR_cond (l : Option (List (List (Option Nat)))) (p : Prop) (x y : Option (List AV × AHeap)) : closeUpR l (@acondO _ p ⟨x⟩ ⟨y⟩) = @acondO _ p ⟨closeUpR l x⟩ ⟨closeUpR l y⟩ := by
  by_cases h : p <;> simp only [h, acondO_true, acondO_false]
@[congr] theorem gd_congr {g g' : Option Bool} {x : Option (AV × AHeap)} {H : AHeap} (h : g = g') : gd g x H = gd g' x H := by rw [h]
def gdb (c : Bool) (x : Option (AV × AHeap)) (H : AHeap) : Option (AV × AHeap) := gd (some c) x H
@[congr] theorem gdb_congr {c c' : Bool} {x x' : Option (AV × AHeap)} {H : AHeap} (h : c = c') (hx : c' = true → x = x') : gdb c x H = gdb c' x' H := by
  subst h
  cases c
  · rfl
  · rw [hx rfl]
@[simp] theorem gdi_true (x : Option (AV × AHeap)) (H : AHeap) : @gdi (some true) ⟨x⟩ H = x := rfl
@[simp] theorem gdi_false (x : Option (AV × AHeap)) (H : AHeap) : @gdi (some false) ⟨x⟩ H = some (.tup [], H) := rfl
@[simp low] theorem gdi_some (c : Bool) (x : Option (AV × AHeap)) (H : AHeap) : @gdi (some c) ⟨x⟩ H = gdb c x H := rfl
@[simp] theorem gw_true (b : Bool) : gw (.bool b) true = some b := by cases b <;> rfl
@[simp] theorem gw_skip (w : Bool) : gw (.tup []) w = some false := rfl
@[simp] theorem gw_false (b : Bool) : gw (.bool b) false = some (!b) := by cases b <;> rfl
def gdv (c : Bool) (v : AV) : AV := if c then v else .tup []
@[simp] theorem gdv_true (v : AV) : gdv true v = v := rfl
@[simp] theorem gdv_false (v : AV) : gdv false v = .tup [] := rfl
@[simp] theorem gd_val (c : Bool) (v : AV) (H : AHeap) : gdb c (some (v, H)) H = some (gdv c v, H) := by cases c <;> rfl
@[simp] theorem pick_or (b c : Bool) : apick (.bool b) (.bool true) (gdv (!b) (.bool c)) = some (.bool (b || c)) := by cases b <;> rfl
@[simp] theorem pick_and (b c : Bool) : apick (.bool b) (gdv b (.bool c)) (.bool false) = some (.bool (b && c)) := by cases b <;> rfl
attribute [simp] lift_some liftS_some areg_some
  aexit_normal aexit_ret aexit_exit al_get afinR_normal afinR_ret anil_ptr anil_rptr fieldAddr_ptr fieldAddr_rptr
  readRow_cell readRow_agg bin_add bin_sub bin_mul bin_eql bin_neq bin_lss bin_leq bin_gtr bin_geq bin_bool bin_shl bin_shr
  len_rsl len_sl len_nils extract_tup not_bool frzMask_nil frzMask_false set_set
  cells_int cells_bool cells_sl cells_rsl cells_ptr cells_nils cells_agg isCell_int isCell_bool isCell_sl isCell_rsl isCell_ptr isCell_nils
  flat_int flat_bool flat_sl flat_rsl flat_ptr flat_nils AHeap.next_set AHeap.next_push res2 args0 args0L eqRes setCells
@[simp] theorem pick_true (x y : AV) : apick (.bool true) x y = some x := rfl
@[simp] theorem pick_false (x y : AV) : apick (.bool false) x y = some y := rfl
attribute [simp] if_pos if_neg decide_eq_true decide_eq_false List.getElem?_cons_zero
@[simp] theorem int_beq_t (a b : Int) (h : a = b) : (a == b) = true := by simp [h]
@[simp] theorem int_beq_f (a b : Int) (h : a ≠ b) : (a == b) = false := by simp [h]
@[simp] theorem int_bne_t (a b : Int) (h : a ≠ b) : (a != b) = true := by simp [h]
@[simp] theorem reps_zero (z : List AV) : reps z 0 = [] := rfl
@[simp] theorem reps_succ (z : List AV) (n : Nat) : reps z (n + 1) = z ++ reps z n := rfl
@[simp] theorem chunks_zero (sz : Nat) (l : List AV) : chunks sz 0 l = [] := rfl
@[simp] theorem chunks_succ (sz n : Nat) (l : List AV) : chunks sz (n + 1) l = l.take sz :: chunks sz n (l.drop sz) := rfl
attribute [simp] AHeap.get_set AHeap.get_push
@[simp] theorem empty_next : AHeap.empty.next = 0 := rfl
@[simp] theorem empty_get (c : Nat) : AHeap.empty.get c = none := rfl
@[simp] theorem AHeap.get_killAll (H : AHeap) (S : List Nat) (c : Nat) : (H.killAll S).get c = if c ∈ S then none else H.get c := rfl
@[simp] theorem next_killAll (H : AHeap) (S : List Nat) : (H.killAll S).next = H.next := rfl
@[simp] theorem tdiv_pos (a b : Int) (h : 0 ≤ a) : a.tdiv b = a / b := Int.tdiv_eq_ediv_of_nonneg h
@[simp] theorem tmod_pos (a b : Int) (h : 0 ≤ a) : a.tmod b = a % b := Int.tmod_eq_emod_of_nonneg h
theorem bin_mask (q : QK) (k : Nat) (x : Int) (hk : k < 63) : abinR q .and (.int .i64 x) (.int .i64 ((2 ^ k - 1 : Nat) : Int)) = some (.int .i64 (x % 2 ^ k)) := by
  have h2 : 2 ^ k ≤ 2 ^ 62 := Nat.pow_le_pow_right (by decide) (by omega)
  have h1 : 0 < 2 ^ k := Nat.pos_of_ne_zero (by simp)
  have h0 : (BitVec.ofInt 64 x &&& BitVec.ofInt 64 ((2 ^ k - 1 : Nat) : Int)).toNat = (x % 2 ^ k).toNat := by
    rw [BitVec.toNat_and, BitVec.ofInt_natCast, BitVec.toNat_ofNat, Nat.mod_eq_of_lt (show 2 ^ k - 1 < 2 ^ 64 by omega), Nat.and_two_pow_sub_one_eq_mod, BitVec.toNat_ofInt]
    have hd : ((2 ^ 64 : Nat) : Int) % ((2 ^ k : Nat) : Int) = 0 := by
      rw [show (2 : Nat) ^ 64 = 2 ^ (64 - k) * 2 ^ k from by rw [← Nat.pow_add]; congr 1; omega]
      simp
    have e1 : (x % ((2 ^ 64 : Nat) : Int)) % ((2 ^ k : Nat) : Int) = x % ((2 ^ k : Nat) : Int) := Int.emod_emod_of_dvd _ (Int.dvd_of_emod_eq_zero hd)
    have e2 : 0 ≤ x % ((2 ^ 64 : Nat) : Int) := Int.emod_nonneg _ (by decide)
    have e3 : ((x % ((2 ^ 64 : Nat) : Int)).toNat : Int) = x % ((2 ^ 64 : Nat) : Int) := Int.toNat_of_nonneg e2
    have e4 : 0 ≤ x % ((2 ^ k : Nat) : Int) := Int.emod_nonneg _ (by omega)
    rw [show ((2 : Int) ^ k) = ((2 ^ k : Nat) : Int) from by simp]
    apply Int.ofNat.inj
    show (((x % ((2 ^ 64 : Nat) : Int)).toNat % 2 ^ k : Nat) : Int) = ((x % ((2 ^ k : Nat) : Int)).toNat : Int)
    rw [Int.natCast_emod, e3, e1, Int.toNat_of_nonneg e4]
  have e4 : 0 ≤ x % ((2 ^ k : Nat) : Int) := Int.emod_nonneg _ (by omega)
  have e5 : x % ((2 ^ k : Nat) : Int) < ((2 ^ k : Nat) : Int) := Int.emod_lt_of_pos _ (by omega)
  rw [bin_and, show IntKind.bits .i64 = 64 from rfl, h0, show ((2 : Int) ^ k) = ((2 ^ k : Nat) : Int) from by simp, Int.toNat_of_nonneg e4, IntWalk.i64_in _ (by omega)]
@[simp] theorem tdiv_lit (n k : Nat) : (n : Int).tdiv (OfNat.ofNat k) = ((n / k : Nat) : Int) := rfl
@[simp] theorem tmod_lit (n k : Nat) : (n : Int).tmod (OfNat.ofNat k) = ((n % k : Nat) : Int) := rfl
theorem foldl_setCells : ∀ (cs : List AV) (k off : Nat) (cells : List AV), (cs.zipIdx k).foldl (fun (l : List AV) (p : AV × Nat) => l.set (off + p.2) p.1) cells = setCells cells (off + k) cs
  | [], _, _, _ => rfl
  | c :: cs, k, off, cells => by
    simp only [List.zipIdx_cons, List.foldl_cons, setCells]
    exact foldl_setCells cs (k + 1) off _
@[simp] theorem afill_cons (place : Nat → Option (Nat × Nat)) (cells : List AV) (i : Nat) (v : AV) (rest : List (Nat × AV)) : afill place cells ((i, v) :: rest) =
    (place i).bind fun p => (v.cells?).bind fun cs => if cs.length = p.2 ∧ p.1 + cs.length ≤ cells.length then afill place (setCells cells p.1 cs) rest else none := by
  simp only [afill]
  rcases place i with _ | ⟨o, s⟩
  · rfl
  · cases hc : v.cells? with
    | none => rfl
    | some cs =>
      simp only [Option.bind_some]
      by_cases h : cs.length = s ∧ o + cs.length ≤ cells.length
      · rw [if_pos h, if_neg (by omega), foldl_setCells]; rfl
      · rw [if_neg h, if_pos (by omega)]
@[simp] theorem afill_nil (place : Nat → Option (Nat × Nat)) (cells : List AV) : afill place cells [] = some cells := rfl
@[simp] theorem load_ptr' (r : Option (Option Nat)) (b sz i j : Nat) (H : AHeap) : aloadR r (.ptr b sz i j) H = (H.get b).bind fun blk => if blk.sz = sz then (blk.rows[i]?).bind fun row => readRowR r row j else none := by
  simp only [aloadR]
  cases H.get b with
  | none => rfl
  | some blk => simp only [Option.bind_some]; split <;> first | rfl | (cases blk.rows[i]? <;> rfl)
@[simp] theorem load_rptr' (r : Option (Option Nat)) (sz : Nat) (rows : List (List AV)) (i j : Nat) (H : AHeap) : aloadR r (.rptr sz rows i j) H = (rows[i]?).bind fun row => readRowR r row j := by
  simp only [aloadR]; cases rows[i]? <;> rfl
theorem store_gen (b sz i j n : Nat) (v : AV) (H : AHeap) (cs : List AV) (hc : v.cells? = some cs) : astoreR (some n) (.ptr b sz i j) v H = (H.get b).bind fun blk => if blk.sz = sz ∧ cs.length = n ∧ cs.all AV.isCell = true then
    (blk.rows[i]?).bind fun row => if j + n ≤ sz then some (H.set b (some { e := blk.e, sz := blk.sz, flat := blk.flat && cs.all AV.flat, rows := blk.rows.set i (setCells row j cs) })) else none else none := by
  simp only [astoreR, hc]
  cases H.get b with
  | none => rfl
  | some blk =>
    simp only [Option.bind_some]; split
    · cases blk.rows[i]? <;> rfl
    · rfl
theorem store_cell (b sz i j : Nat) (v : AV) (H : AHeap) (hv : v.isCell = true) : astoreR (some 1) (.ptr b sz i j) v H = (H.get b).bind fun blk => if blk.sz = sz then
    (blk.rows[i]?).bind fun row => if j + 1 ≤ sz then some (H.set b (some { e := blk.e, sz := blk.sz, flat := blk.flat && v.flat, rows := blk.rows.set i (row.set j v) })) else none else none := by
  have hc : v.cells? = some [v] := by cases v <;> first | rfl | (simp [AV.isCell] at hv)
  rw [store_gen _ _ _ _ _ _ _ _ hc]; simp [hv]
@[simp] theorem store_agg (b sz i j n : Nat) (cs : List AV) (H : AHeap) : astoreR (some n) (.ptr b sz i j) (.agg cs) H = (H.get b).bind fun blk => if blk.sz = sz ∧ cs.length = n ∧ cs.all AV.isCell = true then
    (blk.rows[i]?).bind fun row => if j + n ≤ sz then some (H.set b (some { e := blk.e, sz := blk.sz, flat := blk.flat && cs.all AV.flat, rows := blk.rows.set i (setCells row j cs) })) else none else none := store_gen _ _ _ _ _ _ _ _ rfl
@[simp] theorem box_agg (e : TypeId) (cs : List AV) (H : AHeap) : abox e (.agg cs) H = if cs.all AV.isCell = true then some (.ptr H.next cs.length 0 0, H.push { e, sz := cs.length, flat := cs.all AV.flat, rows := [cs] }) else none := rfl
@[simp] theorem stc_int (b sz i j : Nat) (k : IntKind) (n : Int) (H : AHeap) : astoreR (some 1) (.ptr b sz i j) (.int k n) H = (H.get b).bind fun blk => if blk.sz = sz then
    (blk.rows[i]?).bind fun row => if j + 1 ≤ sz then some (H.set b (some { e := blk.e, sz := blk.sz, flat := blk.flat && true, rows := blk.rows.set i (row.set j (.int k n)) })) else none else none := store_cell _ _ _ _ _ _ rfl
@[simp] theorem stc_bool (b sz i j : Nat) (x : Bool) (H : AHeap) : astoreR (some 1) (.ptr b sz i j) (.bool x) H = (H.get b).bind fun blk => if blk.sz = sz then
    (blk.rows[i]?).bind fun row => if j + 1 ≤ sz then some (H.set b (some { e := blk.e, sz := blk.sz, flat := blk.flat && true, rows := blk.rows.set i (row.set j (.bool x)) })) else none else none := store_cell _ _ _ _ _ _ rfl
@[simp] theorem stc_W32 (b sz i j : Nat) (x : BitVec 32) (H : AHeap) : astoreR (some 1) (.ptr b sz i j) (W32 x) H = (H.get b).bind fun blk => if blk.sz = sz then
    (blk.rows[i]?).bind fun row => if j + 1 ≤ sz then some (H.set b (some { e := blk.e, sz := blk.sz, flat := blk.flat && true, rows := blk.rows.set i (row.set j (W32 x)) })) else none else none := store_cell _ _ _ _ _ _ rfl
@[simp] theorem alloc_some (e : TypeId) (z : AV) (H : AHeap) : aallocR e (some z) H = abox e z H := rfl
@[simp] theorem make_eq (k : EK) (k1 k2 : IntKind) (n q : Int) (H : AHeap) : amakeR (some k) (.int k1 n) (.int k2 q) H =
    if 0 ≤ n ∧ n ≤ q ∧ (k.bytes : Int) * q ≤ 140737488355328 ∧ 0 < k.bytes ∧ k.zero.all AV.isCell = true then
      some (.sl H.next k.size 0 n.toNat, H.push { e := k.e, sz := k.size, flat := k.zero.all AV.flat, rows := List.replicate n.toNat k.zero }) else none := rfl
@[simp] theorem rows_nils (sz : Nat) (H : AHeap) : rowsOf .nils sz H = some ([], true) := rfl
@[simp] theorem rows_esl (s sz : Nat) (H : AHeap) : rowsOf (.esl s) sz H = some ([], true) := rfl
@[simp] theorem rows_rsl (s sz : Nat) (rows : List (List AV)) (H : AHeap) : rowsOf (.rsl s rows) sz H = if s = sz then some (rows, true) else none := rfl
@[simp] theorem rows_sl (b s off len sz : Nat) (H : AHeap) : rowsOf (.sl b s off len) sz H = (H.get b).bind fun blk => if s = sz ∧ blk.sz = sz ∧ off + len ≤ blk.rows.length then some ((blk.rows.drop off).take len, blk.flat) else none := by
  simp only [rowsOf]; cases H.get b <;> rfl
@[simp] theorem append_sl (k : EK) (b sz len : Nat) (x : AV) (H : AHeap) : aappendR (some k) (.sl b sz 0 len) x H = (rowsOf x k.size H).bind fun p => if 0 < k.bytes then
    (H.get b).bind fun blk => if sz = k.size ∧ blk.sz = sz ∧ blk.e = k.e ∧ blk.rows.length = len ∧ (len + p.1.length) * k.bytes ≤ 140737488355328 then
      some (.sl H.next sz 0 (len + p.1.length), (H.set b none).push { e := k.e, sz, flat := blk.flat && p.2, rows := blk.rows ++ p.1 }) else none else none := by
  simp only [aappendR]
  cases rowsOf x k.size H with
  | none => rfl
  | some p => simp only [Option.bind_some]; split <;> first | rfl | (cases H.get b <;> rfl)
@[simp] theorem appendZ_nils (k : EK) (n : Int) (H : AHeap) : aappendZR true (some k) .nils (.int .i64 n) H =
    if 0 < n ∧ n * k.bytes ≤ 140737488355328 ∧ 0 < k.bytes then some (.sl H.next k.size 0 n.toNat, H.push { e := k.e, sz := k.size, flat := true, rows := [] }) else none := rfl
@[simp] theorem overR_eq (b off n : Nat) (blk : Blk) (fl : Bool) (new : List (List AV)) (H : AHeap) : overR b off n blk fl new H =
    H.set b (some { e := blk.e, sz := blk.sz, flat := blk.flat && fl, rows := blk.rows.take off ++ new ++ blk.rows.drop (off + n) }) := rfl
@[simp] theorem clear_nils (k : EK) (H : AHeap) : aclearR (some k) .nils H = some (.tup [], H) := rfl
@[simp] theorem clear_esl (k : EK) (s : Nat) (H : AHeap) : aclearR (some k) (.esl s) H = some (.tup [], H) := rfl
@[simp] theorem clear_none (k : EK) (s : Nat) (H : AHeap) : aclearR (some k) (.rsl s []) H = some (.tup [], H) := rfl
@[simp] theorem bslice_eq (k : EK) (len : Nat) (parts : List (Nat × AV)) (H : AHeap) : abuildSliceR (some k) len parts H =
    if len * k.size ≤ 16777216 then (afill (fun q => some (q * k.size, k.size)) (reps k.zero len) parts).bind fun cs => if cs.all AV.isCell = true then some (.sl H.next k.size 0 len, H.push { e := k.e, sz := k.size, flat := cs.all AV.flat, rows := chunks k.size len cs }) else none else none := by
  simp only [abuildSliceR]; split <;> first | rfl | (cases afill (fun q => some (q * k.size, k.size)) (reps k.zero len) parts <;> rfl)
@[simp] theorem build_str (z : List AV) (pl : List (Nat × Nat)) (parts : List (Nat × AV)) : abuildR (.str z pl) parts = (afill (fun i => pl[i]?) z parts).map .agg := by
  rfl
@[simp] theorem build_arr (z : List AV) (n : Nat) (parts : List (Nat × AV)) : abuildR (.arr z n) parts = (afill (fun i => some (i * n, n)) z parts).map .agg := by
  rfl
@[simp] theorem index_rsl' (n sz : Nat) (rows : List (List AV)) (k : IntKind) (i : Int) : aindexAddrR (.sl n) (.rsl sz rows) (.int k i) = if n = sz then (if 0 ≤ i ∧ i < rows.length then some (.rptr sz rows i.toNat 0) else none) else none := rfl
@[simp] theorem index_sl' (n b sz off len : Nat) (k : IntKind) (i : Int) : aindexAddrR (.sl n) (.sl b sz off len) (.int k i) = if n = sz then (if 0 ≤ i ∧ i < len then some (.ptr b sz (off + i.toNat) 0) else none) else none := rfl
@[simp] theorem index_arr' (len n b sz r j : Nat) (k : IntKind) (i : Int) : aindexAddrR (.arr len n) (.ptr b sz r j) (.int k i) = if 0 ≤ i ∧ i < len then some (.ptr b sz r (j + i.toNat * n)) else none := rfl
@[simp] theorem index_arrr' (len n sz r j : Nat) (rows : List (List AV)) (k : IntKind) (i : Int) : aindexAddrR (.arr len n) (.rptr sz rows r j) (.int k i) = if 0 ≤ i ∧ i < len then some (.rptr sz rows r (j + i.toNat * n)) else none := rfl
@[simp] theorem index_agg (len n : Nat) (r : Option (Option Nat)) (cs : List AV) (k : IntKind) (i : Int) : aindexR (.arr len n r) (.agg cs) (.int k i) = if 0 ≤ i ∧ i < len then apartR r cs (i.toNat * n) else none := rfl
@[simp] theorem index_rsl_W32 (n sz : Nat) (rows : List (List AV)) (i : BitVec 32) : aindexAddrR (.sl n) (.rsl sz rows) (W32 i) = if n = sz then (if i.toNat < rows.length then some (.rptr sz rows i.toNat 0) else none) else none := by
  unfold W32; rw [index_rsl']; simp
@[simp] theorem part_cell (cs : List AV) (o : Nat) : apartR (some none) cs o = cs[o]? := rfl
@[simp] theorem part_agg (n : Nat) (cs : List AV) (o : Nat) : apartR (some (some n)) cs o = some (.agg ((cs.drop o).take n)) := rfl
@[simp] theorem field_agg (o : Nat) (r : Option (Option Nat)) (cs : List AV) : afieldR (some (o, r)) (.agg cs) = apartR r cs o := rfl
@[simp] theorem len_esl (s : Nat) : alenR .sl (.esl s) = some (.int .i64 0) := rfl
@[simp] theorem cap_nils : acapR .sl .nils = some (.int .i64 0) := rfl
@[simp] theorem len_str (s : ByteArray) : alenR .str (.str s) = some (.int .i64 s.size) := rfl
@[simp] theorem slice_none (n sz : Nat) (rows : List (List AV)) (k : IntKind) (h : Int) : asliceR (.sl n) (.rsl sz rows) none (some (.int k h)) none = if 0 ≤ h ∧ h ≤ rows.length then (if n = sz then some (.rsl sz (rows.take h.toNat)) else none) else none := by
  simp only [asliceR, abound]
  by_cases hh : 0 ≤ h ∧ h ≤ rows.length <;> simp [hh]
@[simp] theorem bin_sl_nils (o : BinOp) (b sz off len : Nat) : abinR .s o (.sl b sz off len) .nils = eqRes o false := rfl
@[simp] theorem bin_esl_nils (o : BinOp) (s : Nat) : abinR .s o (.esl s) .nils = eqRes o false := rfl
@[simp] theorem bin_rsl_nils (o : BinOp) (s : Nat) (r : List AV) (rs : List (List AV)) : abinR .s o (.rsl s (r :: rs)) .nils = eqRes o false := rfl
@[simp] theorem bin_nils_nils (o : BinOp) : abinR .s o .nils .nils = eqRes o true := rfl
@[simp] theorem bin_quo' (q : QK) (k : IntKind) (a b : Int) : abinR q .quo (.int k a) (.int k b) = if b = 0 then none else some (.int k (k.wrap (a.tdiv b))) := by simp [abinR, isShift, aarith]
@[simp] theorem bin_rem' (q : QK) (k : IntKind) (a b : Int) : abinR q .rem (.int k a) (.int k b) = if b = 0 then none else some (.int k (a.tmod b)) := by simp [abinR, isShift, aarith]
@[simp] theorem bin_str (o : BinOp) (a b : ByteArray) : abinR .t o (.str a) (.str b) = strRes o a b := rfl
def bs (l : List UInt8) : ByteArray := ⟨l.toArray⟩
@[simp] theorem bin_agg (o : BinOp) (l : List CK) (cs ds : List AV) : abinR (.c l) o (.agg cs) (.agg ds) = (ceqs l cs ds).bind fun r => eqRes o r := by
  simp only [abinR]; cases ceqs l cs ds <;> rfl
@[simp] theorem bin_ptr_nil (o : BinOp) (b sz i j : Nat) : abinR .p o (.ptr b sz i j) .nilp = eqRes o false := rfl
@[simp] theorem bin_nil_nil (o : BinOp) : abinR .p o .nilp .nilp = eqRes o true := rfl
@[simp] theorem ceqs_nil : ceqs [] [] [] = some true := rfl
@[simp] theorem ceqs_cons (k : CK) (ks : List CK) (a b : AV) (as bs : List AV) : ceqs (k :: ks) (a :: as) (b :: bs) = (ceq k a b).bind fun x => (ceqs ks as bs).map fun y => x && y := by
  simp only [ceqs]; cases ceq k a b <;> first | rfl | (cases ceqs ks as bs <;> rfl)
@[simp] theorem ceq_int (k : IntKind) (a b : Int) : ceq .i (.int k a) (.int k b) = some (a == b) := by simp [ceq]
@[simp] theorem ceq_bool (a b : Bool) : ceq .b (.bool a) (.bool b) = some (a == b) := rfl
@[simp] theorem ceq_str (a b : ByteArray) : ceq .t (.str a) (.str b) = some (a == b) := rfl
@[simp] theorem neg_int (n : Int) : aun .neg (.int .i64 n) = some (.int .i64 (IntKind.i64.wrap (0 - n))) := rfl
@[simp] theorem conv_i64 (k' : IntKind) (n : Int) : aconvR (some .i64) (.int k' n) = some (.int .i64 (IntKind.i64.wrap n)) := rfl
@[simp] theorem min_int (k k' : IntKind) (a b : Int) : amin (.int k a) (.int k' b) = some (.int k (min a b)) := by
  simp only [amin]; congr 2; omega
@[simp] theorem max_int (k k' : IntKind) (a b : Int) : amax (.int k a) (.int k' b) = some (.int k (max a b)) := by
  simp only [amax]; congr 2; omega
@[simp] theorem frzCell_int (H : AHeap) (n : Option Nat) (k : IntKind) (x : Int) : frzCell H n (.int k x) = some (.int k x, []) := rfl
@[simp] theorem frzCell_bool (H : AHeap) (n : Option Nat) (x : Bool) : frzCell H n (.bool x) = some (.bool x, []) := rfl
@[simp] theorem frzCell_str (H : AHeap) (n : Option Nat) (x : ByteArray) : frzCell H n (.str x) = some (.str x, []) := rfl
@[simp] theorem frzCell_rsl (H : AHeap) (n : Option Nat) (s : Nat) (x : List (List AV)) : frzCell H n (.rsl s x) = some (.rsl s x, []) := rfl
@[simp] theorem frzCell_esl (H : AHeap) (n : Option Nat) (s : Nat) : frzCell H n (.esl s) = some (.rsl s [], []) := rfl
@[simp] theorem frzCell_nils (H : AHeap) (k : Nat) : frzCell H (some k) .nils = some (.rsl k [], []) := rfl
@[simp] theorem frzCell_W8 (H : AHeap) (n : Option Nat) (x : BitVec 8) : frzCell H n (W8 x) = some (W8 x, []) := rfl
@[simp] theorem frzCell_W16 (H : AHeap) (n : Option Nat) (x : BitVec 16) : frzCell H n (W16 x) = some (W16 x, []) := rfl
@[simp] theorem frzCell_W32 (H : AHeap) (n : Option Nat) (x : BitVec 32) : frzCell H n (W32 x) = some (W32 x, []) := rfl
@[simp] theorem frzCell_W64 (H : AHeap) (n : Option Nat) (x : BitVec 64) : frzCell H n (W64 x) = some (W64 x, []) := rfl
@[simp] theorem frzCell_sl (H : AHeap) (n : Option Nat) (b sz off len : Nat) : frzCell H n (.sl b sz off len) = (H.get b).bind fun blk => if blk.flat = true ∧ blk.sz = sz ∧ off + len ≤ blk.rows.length then some (.rsl sz ((blk.rows.drop off).take len), [b]) else none := by
  simp only [frzCell]; cases H.get b <;> rfl
@[simp] theorem frz_agg (H : AHeap) (l : List (Option Nat)) (cs : List AV) : frz H l (.agg cs) = (frzCells H l cs).map fun p => (.agg p.1, p.2) := by
  simp only [frz]; cases frzCells H l cs <;> rfl
@[simp] theorem frz_int (H : AHeap) (l : List (Option Nat)) (k : IntKind) (x : Int) : frz H l (.int k x) = some (.int k x, []) := rfl
@[simp] theorem frz_bool (H : AHeap) (l : List (Option Nat)) (x : Bool) : frz H l (.bool x) = some (.bool x, []) := rfl
@[simp] theorem frz_str (H : AHeap) (l : List (Option Nat)) (x : ByteArray) : frz H l (.str x) = some (.str x, []) := rfl
@[simp] theorem frz_rsl (H : AHeap) (l : List (Option Nat)) (s : Nat) (x : List (List AV)) : frz H l (.rsl s x) = some (.rsl s x, []) := rfl
@[simp] theorem frz_esl (H : AHeap) (l : List (Option Nat)) (s : Nat) : frz H l (.esl s) = some (.rsl s [], []) := rfl
@[simp] theorem frz_nils (H : AHeap) (k : Nat) (l : List (Option Nat)) : frz H (some k :: l) .nils = some (.rsl k [], []) := rfl
@[simp] theorem frz_W8 (H : AHeap) (l : List (Option Nat)) (x : BitVec 8) : frz H l (W8 x) = some (W8 x, []) := rfl
@[simp] theorem frz_W16 (H : AHeap) (l : List (Option Nat)) (x : BitVec 16) : frz H l (W16 x) = some (W16 x, []) := rfl
@[simp] theorem frz_W32 (H : AHeap) (l : List (Option Nat)) (x : BitVec 32) : frz H l (W32 x) = some (W32 x, []) := rfl
@[simp] theorem frz_W64 (H : AHeap) (l : List (Option Nat)) (x : BitVec 64) : frz H l (W64 x) = some (W64 x, []) := rfl
@[simp] theorem frz_sl (H : AHeap) (l : List (Option Nat)) (b sz off len : Nat) : frz H l (.sl b sz off len) = (H.get b).bind fun blk => if blk.flat = true ∧ blk.sz = sz ∧ off + len ≤ blk.rows.length then some (.rsl sz ((blk.rows.drop off).take len), [b]) else none := frzCell_sl _ (l.headD none) _ _ _ _
@[simp] theorem frzCells_nil (H : AHeap) : frzCells H [] [] = some ([], []) := rfl
@[simp] theorem frzCells_cons (H : AHeap) (n : Option Nat) (l : List (Option Nat)) (a : AV) (cs : List AV) : frzCells H (n :: l) (a :: cs) = (frzCell H n a).bind fun p => (frzCells H l cs).map fun q => (p.1 :: q.1, p.2 ++ q.2) := by
  simp only [frzCells]
  rcases frzCell H n a with _ | ⟨a', S⟩ <;> first | rfl | (rcases frzCells H l cs with _ | ⟨b, T⟩ <;> rfl)
@[simp] theorem frzArgs_nil (H : AHeap) : frzArgs H [] [] = some ([], []) := rfl
@[simp] theorem frzArgs_cons (H : AHeap) (n : List (Option Nat)) (l : List (List (Option Nat))) (a : AV) (cs : List AV) : frzArgs H (n :: l) (a :: cs) = (frz H n a).bind fun p => (frzArgs H l cs).map fun q => (p.1 :: q.1, p.2 ++ q.2) := by
  simp only [frzArgs]
  rcases frz H n a with _ | ⟨a', S⟩ <;> first | rfl | (rcases frzArgs H l cs with _ | ⟨b, T⟩ <;> rfl)
@[simp] theorem frzMask_true (H : AHeap) (ms : List Bool) (n : List (Option Nat)) (l : List (List (Option Nat))) (a : AV) (cs : List AV) :
    frzMask H (true :: ms) (n :: l) (a :: cs) = (frz H n a).bind fun p => (frzMask H ms l cs).map fun q => (p.1 :: q.1, p.2 ++ q.2) := by
  simp only [frzMask]
  rcases frz H n a with _ | ⟨a', S⟩ <;> first | rfl | (rcases frzMask H ms l cs with _ | ⟨b, T⟩ <;> rfl)
@[congr] theorem callP_congr {keep : Bool} {spec : SpecP} {l : List (List (Option Nat))} {args args' : List AV} {H H' : AHeap} (h : args = args') (hh : H = H') : callP keep spec l args H = callP keep spec l args' H' := by rw [h, hh]
@[simp] theorem callP_eq (keep : Bool) (spec : SpecP) (l : List (List (Option Nat))) (args : List AV) (H : AHeap) : callP keep spec l args H = (frzArgs H l args).bind fun p => (spec p.1).bind fun r => if r.closed = true then (if p.2 = [] ∨ r.noSl = true ∨ keep = true then some (r, H) else some (r, H.killAll p.2)) else none := by
  simp only [callP]
  rcases frzArgs H l args with _ | ⟨a', S⟩ <;> first | rfl | (simp only [Option.bind_some]; cases spec a' <;> rfl)
@[simp] theorem callM_eq (ms : List Bool) (spec : SpecM) (l : List (List (Option Nat))) (args : List AV) (H : AHeap) : callM ms spec l args H = (frzMask H ms l args).bind fun p => spec p.1 (if p.2 = [] then H else H.killAll p.2) := by
  simp only [callM]; cases frzMask H ms l args <;> rfl
@[simp] theorem closed_agg (cs : List AV) : (AV.agg cs).closed = cs.all AV.flat := rfl
def AV.clF (v : AV) : Bool := match v with | .agg cs => cs.all AV.flat | v => v.flat
@[simp] theorem clF_agg (cs : List AV) : (AV.agg cs).clF = cs.all AV.flat := rfl
@[simp] theorem clF_int (k : IntKind) (x : Int) : (AV.int k x).clF = true := rfl
@[simp] theorem clF_bool (x : Bool) : (AV.bool x).clF = true := rfl
@[simp] theorem clF_str (x : ByteArray) : (AV.str x).clF = true := rfl
@[simp] theorem clF_W8 (x : BitVec 8) : (W8 x).clF = true := rfl
@[simp] theorem clF_W16 (x : BitVec 16) : (W16 x).clF = true := rfl
@[simp] theorem clF_W32 (x : BitVec 32) : (W32 x).clF = true := rfl
@[simp] theorem clF_W64 (x : BitVec 64) : (W64 x).clF = true := rfl
@[simp] theorem clF_rsl (s : Nat) (x : List (List AV)) : (AV.rsl s x).clF = true := rfl
@[simp] theorem closed_tup (vs : List AV) : (AV.tup vs).closed = vs.all AV.clF := rfl
@[simp] theorem closed_int (k : IntKind) (x : Int) : (AV.int k x).closed = true := rfl
@[simp] theorem closed_bool (x : Bool) : (AV.bool x).closed = true := rfl
@[simp] theorem closed_str (x : ByteArray) : (AV.str x).closed = true := rfl
@[simp] theorem closed_rsl (s : Nat) (x : List (List AV)) : (AV.rsl s x).closed = true := rfl
@[simp] theorem closed_W8 (x : BitVec 8) : (W8 x).closed = true := rfl
@[simp] theorem closed_W16 (x : BitVec 16) : (W16 x).closed = true := rfl
@[simp] theorem closed_W32 (x : BitVec 32) : (W32 x).closed = true := rfl
@[simp] theorem closed_W64 (x : BitVec 64) : (W64 x).closed = true := rfl
@[simp] theorem flat_str (x : ByteArray) : (AV.str x).flat = true := rfl
@[simp] theorem cells_str (x : ByteArray) : (AV.str x).cells? = some [.str x] := rfl
@[simp] theorem isCell_str (x : ByteArray) : (AV.str x).isCell = true := rfl
@[simp] theorem noSl_agg (cs : List AV) : (AV.agg cs).noSl = cs.all AV.noSlC := rfl
@[simp] theorem noSl_int (k : IntKind) (x : Int) : (AV.int k x).noSl = true := rfl
@[simp] theorem noSl_bool (x : Bool) : (AV.bool x).noSl = true := rfl
@[simp] theorem noSl_str (x : ByteArray) : (AV.str x).noSl = true := rfl
@[simp] theorem noSl_rsl (s : Nat) (x : List (List AV)) : (AV.rsl s x).noSl = false := rfl
@[simp] theorem noSl_W8 (x : BitVec 8) : (W8 x).noSl = true := rfl
@[simp] theorem noSl_W16 (x : BitVec 16) : (W16 x).noSl = true := rfl
@[simp] theorem noSl_W32 (x : BitVec 32) : (W32 x).noSl = true := rfl
@[simp] theorem noSl_W64 (x : BitVec 64) : (W64 x).noSl = true := rfl
@[simp] theorem noSlC_int (k : IntKind) (x : Int) : (AV.int k x).noSlC = true := rfl
@[simp] theorem noSlC_bool (x : Bool) : (AV.bool x).noSlC = true := rfl
@[simp] theorem noSlC_str (x : ByteArray) : (AV.str x).noSlC = true := rfl
@[simp] theorem noSlC_rsl (s : Nat) (x : List (List AV)) : (AV.rsl s x).noSlC = false := rfl
@[simp] theorem closeUpR_some (l : List (List (Option Nat))) (rs : List AV) (H : AHeap) : closeUpR (some l) (some (rs, H)) = (frzArgs H l rs).map fun p => mkRes p.1 := by
  simp only [closeUpR]; rcases frzArgs H l rs with _ | ⟨a, S⟩ <;> rfl
@[simp] theorem mkRes_one (v : AV) : mkRes [v] = v := rfl
@[simp] theorem mkRes_two (v u : AV) (l : List AV) : mkRes (v :: u :: l) = .tup (v :: u :: l) := rfl
@[simp] theorem raw_some (rs : List AV) (H : AHeap) : raw (some (rs, H)) = some (mkRes rs, H) := rfl
@[simp] theorem withChk_nil {α : Type} (x : Option α) : withChk [] x = x := rfl
@[simp] theorem withChk_true {α : Type} (ps : List Prop) (x : Option α) : withChk (True :: ps) x = withChk ps x := by simp [withChk]
@[simp] theorem bits_i64 : IntKind.bits .i64 = 64 := rfl
@[simp] theorem bits_i32 : IntKind.bits .i32 = 32 := rfl
@[simp] theorem wrap_in (n : Int) (h0 : -9223372036854775808 ≤ n) (h1 : n ≤ 9223372036854775807) : IntKind.i64.wrap n = n := IntWalk.i64_in _ ⟨h0, h1⟩
section
variable {f : AFr → AHeap → ARes}
theorem aloop_exit {fr fr' : AFr} {H H' : AHeap} {e : AEx} (he : e ≠ .normal) (h : f fr H = some (e, fr', H')) : aloop f fr H = some (e, fr', H') := by
  rw [aloop_eq, h]; cases e <;> first | rfl | exact absurd rfl he
theorem aloop_step {fr fr' : AFr} {H H' : AHeap} (h : f fr H = some (.normal, fr', H')) : aloop f fr H = aloop f fr' H' := by
  rw [aloop_eq, h]
noncomputable def loopK (f : AFr → AHeap → ARes) (r : ARes) : ARes :=
  match r with
  | some (.normal, fr', H') => aloop f fr' H'
  | r => r
theorem aloop_unroll (fr : AFr) (H : AHeap) : aloop f fr H = loopK f (f fr H) := aloop_eq f fr H
@[simp] theorem loopK_normal (fr : AFr) (H : AHeap) : loopK f (some (.normal, fr, H)) = aloop f fr H := rfl
@[simp] theorem loopK_exit (n : Nat) (fr : AFr) (H : AHeap) : loopK f (some (.exit n, fr, H)) = some (.exit n, fr, H) := rfl
@[simp] theorem loopK_ret (fr : AFr) (H : AHeap) : loopK f (some (.ret, fr, H)) = some (.ret, fr, H) := rfl
@[simp] theorem loopK_cond (p : Prop) (x y : ARes) : loopK f (@acondp p ⟨x⟩ ⟨y⟩) = @acondp p ⟨loopK f x⟩ ⟨loopK f y⟩ := by
  by_cases h : p <;> simp only [h, acondp_true, acondp_false]
theorem aloop_rel (R : Nat → AFr → AHeap → Prop) (n : Nat) (h : ∀ k, k < n → ∀ fr H, R k fr H → ∃ fr' H', f fr H = some (.normal, fr', H') ∧ R (k + 1) fr' H') {fr : AFr} {H : AHeap} (h0 : R 0 fr H) :
    ∃ fr' H', R n fr' H' ∧ aloop f fr H = aloop f fr' H' := by
  induction n with
  | zero => exact ⟨fr, H, h0, rfl⟩
  | succ n ih =>
    obtain ⟨fr', H', h1, h2⟩ := ih fun k hk => h k (by omega)
    obtain ⟨fr2, H2, h3, h4⟩ := h n (by omega) _ _ h1
    exact ⟨fr2, H2, h4, by rw [h2, aloop_step h3]⟩
theorem aloop_upto (R : Nat → AFr → AHeap → Prop) (n : Nat) (Q : AEx → AFr → AHeap → Prop) (h : ∀ k, k < n → ∀ fr H, R k fr H → ∃ fr' H', f fr H = some (.normal, fr', H') ∧ R (k + 1) fr' H')
    (hx : ∀ fr H, R n fr H → ∃ e fr' H', f fr H = some (e, fr', H') ∧ e ≠ .normal ∧ Q e fr' H') {fr : AFr} {H : AHeap} (h0 : R 0 fr H) :
    ∃ e fr' H', aloop f fr H = some (e, fr', H') ∧ Q e fr' H' := by
  obtain ⟨fr1, H1, h1, h2⟩ := aloop_rel R n h h0
  obtain ⟨e, fr', H', h3, h4, h5⟩ := hx _ _ h1
  exact ⟨e, fr', H', by rw [h2, aloop_exit h4 h3], h5⟩
end
theorem AHeap.WF.set {H : AHeap} {b : Nat} {x : Option Blk} (h : H.WF) (hb : b < H.next) : (H.set b x).WF := fun c z hz => by
  rw [AHeap.get_set] at hz; rw [AHeap.next_set]
  split at hz
  · omega
  · exact h c z hz
theorem AHeap.WF.push {H : AHeap} {x : Blk} (h : H.WF) : (H.push x).WF := fun c z hz => by
  rw [AHeap.get_push] at hz; rw [AHeap.next_push]
  split at hz
  · omega
  · have := h c z hz; omega
theorem AHeap.WF.empty : AHeap.empty.WF := fun b x h => by simp [AHeap.empty] at h
end Go.Abs
end
section
set_option linter.unusedSimpArgs false
set_option linter.unusedVariables false
namespace Go.Abs
def w16s (l : List (BitVec 16)) : List (List AV) := l.map fun n => [W16 n]
@[simp] theorem w16s_length (l : List (BitVec 16)) : (w16s l).length = l.length := by simp [w16s]
theorem w16s_take (l : List (BitVec 16)) (n : Nat) : (w16s l).take n = w16s (l.take n) := by simp [w16s, List.map_take]
theorem w16s_noSl (l : List (BitVec 16)) : ((w16s l).all fun row => row.length == 1 && row.all AV.noSlC) = true := by simp [w16s, List.all_map]
def w32s (l : List (BitVec 32)) : List (List AV) := l.map fun n => [W32 n]
@[simp] theorem w32s_length (l : List (BitVec 32)) : (w32s l).length = l.length := by simp [w32s]
@[simp] theorem w32s_set (l : List (BitVec 32)) (n : Nat) (x : BitVec 32) : (w32s l).set n [W32 x] = w32s (l.set n x) := by simp [w32s, List.map_set]
theorem w32s_rep (n : Nat) (x : BitVec 32) : List.replicate n [W32 x] = w32s (List.replicate n x) := by simp [w32s]
theorem w32s_flat (l : List (BitVec 32)) : ∀ row, row ∈ w32s l → ∀ a, a ∈ row → a.flat = true := by
  intro row h a ha; simp only [w32s, List.mem_map] at h; obtain ⟨x, _, rfl⟩ := h; simp at ha; subst ha; rfl
theorem w32s_noSl (l : List (BitVec 32)) : ((w32s l).all fun row => row.length == 1 && row.all AV.noSlC) = true := by simp [w32s, List.all_map]
def at0 {n : Nat} (l : List (BitVec n)) (i : Nat) : BitVec n := l.getD i 0#n
theorem at0_get {n : Nat} (l : List (BitVec n)) (i : Nat) (h : i < l.length) : l[i]? = some (at0 l i) := by
  unfold at0; rw [List.getD_eq_getElem?_getD, List.getElem?_eq_getElem h]; rfl
@[simp] theorem w16s_get (l : List (BitVec 16)) (n : Nat) : (w16s l)[n]? = if n < l.length then some [W16 (at0 l n)] else none := by
  split
  · rename_i h; simp [w16s, at0_get l n h]
  · rename_i h; simp [w16s]; omega
@[simp] theorem w32s_get (l : List (BitVec 32)) (n : Nat) : (w32s l)[n]? = if n < l.length then some [W32 (at0 l n)] else none := by
  split
  · rename_i h; simp [w32s, at0_get l n h]
  · rename_i h; simp [w32s]; omega
theorem killAll_wf {H : AHeap} (h : H.WF) (S : List Nat) : (H.killAll S).WF := fun b x hb => by
  rw [AHeap.get_killAll] at hb
  split at hb
  · cases hb
  · exact h b x hb
section
variable {P : Program} {d : Nat} {t e : TypeId} {a : AV}
theorem wf_u32 {n : Int} (h : (Lit.int .u32 n).wf = true) : ∃ x : BitVec 32, AV.int .u32 n = W32 x := by
  simp [Lit.wf, IntKind.min, IntKind.max, IntKind.bits, IntKind.signed] at h
  exact ⟨_, W32_of n (by omega) (by omega)⟩
end
end Go.Abs
end
section
set_option linter.unusedSimpArgs false
set_option linter.unusedVariables false
namespace Go.Abs
inductive Sh where
  | int (k : IntKind)
  | bool
  | str
  | sl (sz bytes : Nat) (cells : List Sh)
mutual
def ShOk : Sh → AV → Prop
  | .int k, a => ∃ n, a = .int k n ∧ (Lit.int k n).wf = true
  | .bool, a => ∃ b, a = .bool b
  | .str, a => ∃ s : ByteArray, a = .str s ∧ s.size ≤ reachBytes
  | .sl sz bytes cells, a => ∃ rows : List (List AV), a = .rsl sz rows ∧ rows.length * bytes ≤ reachBytes ∧ ∀ row, row ∈ rows → ShsOk cells row
def ShsOk : List Sh → List AV → Prop
  | [], [] => True
  | s :: ss, a :: as => ShOk s a ∧ ShsOk ss as
  | _, _ => False
end
def catSh (g : TypeId → Option (List Sh)) : List Field → Option (List Sh)
  | [] => some []
  | f :: fs => match g f.type, catSh g fs with
    | some a, some b => some (a ++ b)
    | _, _ => none
def repSh (l : List Sh) : Nat → List Sh
  | 0 => []
  | n + 1 => l ++ repSh l n
def shapes (P : Program) : Nat → TypeId → Option (List Sh)
  | 0, _ => none
  | d + 1, t =>
    match P.underlying t with
    | some (.int k) => some [.int k]
    | some .bool => some [.bool]
    | some .string => some [.str]
    | some (.slice e) => match shapes P d e with | some l => some [.sl (P.cellsOf e) (P.bytesOf e) l] | none => none
    | some (.struct fs) => catSh (shapes P d) fs.toList
    | some (.array n e) => match shapes P d e with | some l => some (repSh l n) | none => none
    | _ => none
theorem ShsOk.append : ∀ {ss ss' : List Sh} {as as' : List AV}, ShsOk ss as → ShsOk ss' as' → ShsOk (ss ++ ss') (as ++ as')
  | [], _, [], _, _, h => h
  | [], _, _ :: _, _, h, _ => by simp [ShsOk] at h
  | _ :: _, _, [], _, h, _ => by simp [ShsOk] at h
  | s :: ss, ss', a :: as, as', h, h' => by
    simp only [ShsOk, List.cons_append] at h ⊢
    exact ⟨h.1, ShsOk.append h.2 h'⟩
theorem catSh_ok {P : Program} {g : TypeId → Option (List Sh)} {cs : List AV} {total : Nat} (hl : cs.length = total) : ∀ (fs : List Field) (off : Nat) (ss : List Sh), inRow P total off fs = true → catSh g fs = some ss →
    (∀ f, f ∈ fs → ∀ s, g f.type = some s → ShsOk s ((cs.drop f.offset).take (P.cellsOf f.type))) → ShsOk ss (cs.drop off)
  | [], off, ss, hr, hc, _ => by
    simp only [catSh, Option.some.injEq] at hc
    subst hc
    simp only [inRow, beq_iff_eq] at hr
    rw [List.drop_of_length_le (by omega)]
    trivial
  | f :: fs, off, ss, hr, hc, h => by
    simp only [catSh] at hc
    split at hc <;> try (cases hc; done)
    rename_i a b ha hb
    simp only [Option.some.injEq] at hc
    subst hc
    simp only [inRow, Bool.and_eq_true, beq_iff_eq] at hr
    have h1 := h f List.mem_cons_self a ha
    have h2 := catSh_ok hl fs _ b hr.2 hb fun f' hf' => h f' (List.mem_cons_of_mem _ hf')
    rw [hr.1] at h1
    have := h1.append h2
    rwa [← List.drop_drop, List.take_append_drop] at this
theorem repSh_ok {cs : List AV} {sz : Nat} {l : List Sh} : ∀ (n k : Nat), cs.length = (k + n) * sz → (∀ i, i < n → ShsOk l ((cs.drop ((k + i) * sz)).take sz)) → ShsOk (repSh l n) (cs.drop (k * sz))
  | 0, k, hl, _ => by
    rw [List.drop_of_length_le (by rw [hl]; exact Nat.le_refl _)]
    trivial
  | n + 1, k, hl, h => by
    have h1 := h 0 (by omega)
    have h2 := repSh_ok n (k + 1) (by rw [hl]; congr 1; omega) fun i hi => by
      have := h (i + 1) (by omega)
      rwa [show k + (i + 1) = k + 1 + i from by omega] at this
    have := h1.append h2
    rw [Nat.add_zero, show (k + 1) * sz = k * sz + sz from by rw [Nat.add_mul, Nat.one_mul], ← List.drop_drop, List.take_append_drop] at this
    exact this
theorem shapes_ok {P : Program} : ∀ (d : Nat) (t : TypeId) (ss : List Sh) (cs : List AV), plainTy P d t = true → shapes P d t = some ss → OkCells P d t cs → ShsOk ss cs
  | 0, _, _, _, h, _, _ => by simp [plainTy] at h
  | d + 1, t, ss, cs, hp, hs, ho => by
    simp only [plainTy] at hp
    simp only [shapes] at hs
    simp only [OkCells] at ho
    cases hu : P.underlying t with
    | none => rw [hu] at ho; exact ho.elim
    | some u =>
      rw [hu] at hp hs ho
      cases u <;> dsimp only at hp hs ho <;> try (exact ho.elim)
      case bool => cases hs; obtain ⟨b, rfl⟩ := ho; exact ⟨⟨b, rfl⟩, trivial⟩
      case int k => cases hs; obtain ⟨n, rfl, hw⟩ := ho; exact ⟨⟨n, rfl, hw⟩, trivial⟩
      case string => cases hs; obtain ⟨s, rfl, _, h2⟩ := ho; exact ⟨⟨s, rfl, h2⟩, trivial⟩
      case slice e =>
        split at hs <;> try (cases hs; done)
        rename_i l hl
        simp only [Option.some.injEq] at hs
        subst hs
        obtain ⟨rows, rfl, _, h2, h3⟩ := ho
        simp only [Bool.and_eq_true] at hp
        exact ⟨⟨rows, rfl, h2, fun row hr => shapes_ok d e l row hp.2 hl (h3 row hr)⟩, trivial⟩
      case struct fs =>
        simp only [Bool.and_eq_true, List.all_eq_true] at hp
        have := catSh_ok (P := P) (g := shapes P d) ho.1 fs.toList 0 ss hp.1 hs fun f hf s hsf => shapes_ok d f.type s _ (hp.2 f hf) hsf (ho.2 f hf)
        simpa using this
      case array n e =>
        split at hs <;> try (cases hs; done)
        rename_i l hl
        simp only [Option.some.injEq] at hs
        subst hs
        simp only [Bool.and_eq_true, beq_iff_eq] at hp
        have := repSh_ok (l := l) (sz := P.cellsOf e) (cs := cs) n 0 (by rw [ho.1, hp.1, Nat.zero_add]) fun i hi => shapes_ok d e l _ hp.2 hl (by simpa using ho.2 i hi)
        simpa using this
theorem arg_cells {P : Program} {d : Nat} {t : TypeId} {a : AV} {ss : List Sh} (hp : plainTy P d t = true) (hs : shapes P d t = some ss) (h : OkArg P d t a) (hagg : aggT P t = some true) : ∃ cs, a = .agg cs ∧ ShsOk ss cs := by
  unfold OkArg at h
  unfold aggT at hagg
  split at h
  · obtain ⟨cs, rfl, ho⟩ := h; exact ⟨cs, rfl, shapes_ok d t ss cs hp hs ho⟩
  · obtain ⟨cs, rfl, ho⟩ := h; exact ⟨cs, rfl, shapes_ok d t ss cs hp hs ho⟩
  · rename_i h1 h2
    exfalso
    split at hagg
    · rename_i fs hu; exact h1 fs hu
    · rename_i n e hu; exact h2 n e hu
    · simp at hagg
    · simp at hagg
theorem arg_cell {P : Program} {d : Nat} {t : TypeId} {a : AV} {s : Sh} (hp : plainTy P d t = true) (hs : shapes P d t = some [s]) (h : OkArg P d t a) (hagg : aggT P t = some false) : ShOk s a := by
  unfold OkArg at h
  unfold aggT at hagg
  split at h
  · rename_i hu; rw [hu] at hagg; simp at hagg
  · rename_i hu; rw [hu] at hagg; simp at hagg
  · exact (shapes_ok d t [s] [a] hp hs h).1
def argShapes (P : Program) (d : Nat) : List TypeId → Option (List (Bool × List Sh))
  | [] => some []
  | t :: ts => match aggT P t, shapes P d t, argShapes P d ts with
    | some b, some l, some r => if plainTy P d t = true ∧ (b = true ∨ l.length = 1) then some ((b, l) :: r) else none
    | _, _, _ => none
def ArgsSh : List (Bool × List Sh) → List AV → Prop
  | [], [] => True
  | (true, l) :: r, a :: as => (∃ cs, a = .agg cs ∧ ShsOk l cs) ∧ ArgsSh r as
  | (false, l) :: r, a :: as => ShsOk l [a] ∧ ArgsSh r as
  | _, _ => False
theorem args_ok {P : Program} {d : Nat} : ∀ {ts : List TypeId} {r : List (Bool × List Sh)} {as : List AV}, argShapes P d ts = some r → OkArgs P d ts as → ArgsSh r as
  | [], r, as, h, ho => by
    simp only [argShapes, Option.some.injEq] at h
    subst h
    cases as with
    | nil => trivial
    | cons a as => exact ho.elim
  | t :: ts, r, [], h, ho => ho.elim
  | t :: ts, r, a :: as, h, ho => by
    simp only [argShapes] at h
    split at h <;> try (cases h; done)
    rename_i b l r' h1 h2 h3
    split at h <;> try (cases h; done)
    rename_i hp
    simp only [Option.some.injEq] at h
    subst h
    have ih := args_ok h3 ho.2
    cases b with
    | true => exact ⟨arg_cells hp.1 h2 ho.1 h1, ih⟩
    | false =>
      have hl : l.length = 1 := by simpa using hp.2
      match l, hl with
      | [s], _ => exact ⟨⟨arg_cell hp.1 h2 ho.1 h1, trivial⟩, ih⟩
theorem sh_u32 {a : AV} (h : ShOk (.int .u32) a) : ∃ x, a = W32 x := by
  simp only [ShOk] at h; obtain ⟨n, rfl, hw⟩ := h; exact wf_u32 hw
theorem sh_bool {a : AV} (h : ShOk .bool a) : ∃ b, a = .bool b := by simpa only [ShOk] using h
theorem shs_nil {as : List AV} (h : ShsOk [] as) : as = [] := by cases as <;> simp_all [ShsOk]
theorem shs_cons {s : Sh} {ss : List Sh} {as : List AV} (h : ShsOk (s :: ss) as) : ∃ a as', as = a :: as' ∧ ShOk s a ∧ ShsOk ss as' := by
  cases as with
  | nil => simp [ShsOk] at h
  | cons a as => simp only [ShsOk] at h; exact ⟨a, as, rfl, h.1, h.2⟩
theorem shs_one {s : Sh} {as : List AV} (h : ShsOk [s] as) : ∃ a, as = [a] ∧ ShOk s a := by
  obtain ⟨a, as', rfl, h1, h2⟩ := shs_cons h
  rw [shs_nil h2]; exact ⟨a, rfl, h1⟩
theorem args_nil {as : List AV} (h : ArgsSh [] as) : as = [] := by cases as <;> simp_all [ArgsSh]
theorem args_one {l : List Sh} {r : List (Bool × List Sh)} {as : List AV} (h : ArgsSh ((false, l) :: r) as) : ∃ a as', as = a :: as' ∧ ShsOk l [a] ∧ ArgsSh r as' := by
  cases as with
  | nil => simp [ArgsSh] at h
  | cons a as => simp only [ArgsSh] at h; exact ⟨a, as, rfl, h.1, h.2⟩
theorem args_agg {l : List Sh} {r : List (Bool × List Sh)} {as : List AV} (h : ArgsSh ((true, l) :: r) as) : ∃ cs as', as = .agg cs :: as' ∧ ShsOk l cs ∧ ArgsSh r as' := by
  cases as with
  | nil => simp [ArgsSh] at h
  | cons a as => simp only [ArgsSh] at h; obtain ⟨⟨cs, rfl, h1⟩, h2⟩ := h; exact ⟨cs, as, rfl, h1, h2⟩
theorem san_wf {H X : AHeap} {v : AV} (hw : X.WF) (hn : H.next ≤ X.next) : san H (some (v, X)) = some (v, X) := by
  unfold san
  dsimp only
  rw [if_pos hn]
  congr 2
  refine AHeap.eq_of rfl (funext fun c => ?_)
  dsimp only
  split
  · rfl
  · rename_i h
    cases hg : X.get c with
    | none => rfl
    | some x => exact (h (hw c x hg)).elim
end Go.Abs
end
