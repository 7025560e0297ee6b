/-
  What comes in, by its content.
-/
import Derived.Test.YtgcfbommjdcgkaaAbs16
import Derived.WalkKit
import Derived.ProofKit
import Derived.OpenShut
import Derived.ShutString
import Derived.ChangeOld
import Derived.Below
import Derived.SizedLaws
import Derived.Carry
import Derived.DataElems
import Derived.Laws.Entries
set_option linter.unusedSimpArgs false
set_option linter.unusedVariables false
namespace Go.Abs
open Go.ChangeShapes Go.RowKit

/-- Cells of a type of whole numbers, bools, strings, slices, structs and arrays. -/
def OkCells (P : Program) : Nat → TypeId → List AV → Prop
  | 0, _, _ => False
  | d + 1, t, cs =>
    match P.underlying t with
    | some (.int k) => ∃ n, cs = [.int k n] ∧ (Lit.int k n).wf = true
    | some .bool => ∃ b, cs = [.bool b]
    | some .string => ∃ s, cs = [.str s] ∧ s.size ≤ maxLen ∧ s.size ≤ reachBytes
    | some (.slice e) => ∃ rows : List (List AV), cs = [.rsl (P.cellsOf e) rows] ∧ rows.length ≤ maxLen ∧ rows.length * P.bytesOf e ≤ reachBytes ∧ ∀ row, row ∈ rows → OkCells P d e row
    | some (.struct fs) => cs.length = P.cellsOf t ∧ ∀ f, f ∈ fs.toList → OkCells P d f.type ((cs.drop f.offset).take (P.cellsOf f.type))
    | some (.array n e) => cs.length = P.cellsOf t ∧ ∀ i, i < n → OkCells P d e ((cs.drop (i * P.cellsOf e)).take (P.cellsOf e))
    | _ => False

def OkArg (P : Program) (d : Nat) (t : TypeId) (a : AV) : Prop :=
  match P.underlying t with
  | some (.struct _) | some (.array _ _) => ∃ cs, a = .agg cs ∧ OkCells P d t cs
  | _ => OkCells P d t [a]

/-- The fields lie one behind the other. -/
def inRow (P : Program) (total : Nat) : Nat → List Field → Bool
  | off, [] => off == total
  | off, f :: fs => f.offset == off && inRow P total (off + P.cellsOf f.type) fs

def plainTy (P : Program) : Nat → TypeId → Bool
  | 0, _ => false
  | d + 1, t =>
    match P.underlying t with
    | some (.int _) | some .bool | some .string => P.cellsOf t == 1
    | some (.slice e) => P.cellsOf t == 1 && !(P.cellsOf e == 0) && plainTy P d e
    | some (.struct fs) => inRow P (P.cellsOf t) 0 fs.toList && fs.toList.all fun f => plainTy P d f.type
    | some (.array n e) => P.cellsOf t == n * P.cellsOf e && plainTy P d e
    | _ => false

section
variable {H : Type} {enc : TypeId × Value → H} {P : Program} {w : World}

abbrev RL0 (w : World) (cs : List AV) (vs : List Value) : Prop := RL w (fun _ => False) (fun _ => False) id cs vs

theorem RL.append {F A : Nat → Prop} {m : Nat → Nat} {cs cs' : List AV} {vs vs' : List Value} (h : RL w F A m cs vs) (h' : RL w F A m cs' vs') : RL w F A m (cs ++ cs') (vs ++ vs') := by
  refine ⟨by simp [h.1, h'.1], fun i a v h1 h2 => ?_⟩
  rw [List.getElem?_append] at h1 h2
  rw [h.1] at h1
  split at h1
  · rename_i hi
    rw [if_pos hi] at h2
    exact h.2 i a v h1 h2
  · rename_i hi
    rw [if_neg hi] at h2
    exact h'.2 _ a v h1 h2

/-- Pieces one behind the other. -/
theorem glue_fields {ok : TypeId → List AV → Prop} {cs : List Value} {total : Nat} (hcs : cs.length = total) : ∀ (fs : List Field) (off : Nat), inRow P total off fs = true →
    (∀ f, f ∈ fs → ∃ as, RL0 w as ((cs.drop f.offset).take (P.cellsOf f.type)) ∧ as.all AV.flat = true ∧ ok f.type as) →
    ∃ as, RL0 w as (cs.drop off) ∧ as.all AV.flat = true ∧ ∀ f, f ∈ fs → off ≤ f.offset ∧ ok f.type ((as.drop (f.offset - off)).take (P.cellsOf f.type))
  | [], off, hr, _ => by
    simp only [inRow, beq_iff_eq] at hr
    refine ⟨[], ⟨by simp; omega, by simp⟩, rfl, by simp⟩
  | f :: fs, off, hr, h => by
    simp only [inRow, Bool.and_eq_true, beq_iff_eq] at hr
    obtain ⟨rfl, hr⟩ := hr
    obtain ⟨as1, h1, h2, h3⟩ := h f (by simp)
    obtain ⟨as2, q1, q2, q3⟩ := glue_fields hcs fs _ hr fun g hg => h g (by simp [hg])
    have hle : ∀ (fs : List Field) (o : Nat), inRow P total o fs = true → o ≤ total := by
      intro fs
      induction fs with
      | nil => intro o h; simp only [inRow, beq_iff_eq] at h; omega
      | cons g fs ih =>
        intro o h
        simp only [inRow, Bool.and_eq_true, beq_iff_eq] at h
        have := ih _ h.2; omega
    have hle := hle _ _ hr
    have hl1 : as1.length = P.cellsOf f.type := by rw [h1.1]; simp; omega
    refine ⟨as1 ++ as2, ?_, by simp [List.all_append, h2, q2], fun g hg => ?_⟩
    · have e : cs.drop f.offset = (cs.drop f.offset).take (P.cellsOf f.type) ++ cs.drop (f.offset + P.cellsOf f.type) := by
        rw [← List.drop_drop, List.take_append_drop]
      rw [e]; exact h1.append q1
    · rcases List.mem_cons.1 hg with rfl | hg
      · refine ⟨Nat.le_refl _, ?_⟩
        rw [Nat.sub_self, List.drop_zero, List.take_append_of_le_length (by omega), List.take_of_length_le (by omega)]
        exact h3
      · obtain ⟨p1, p2⟩ := q3 g hg
        refine ⟨by omega, ?_⟩
        rw [List.drop_append, List.drop_of_length_le (by omega), List.nil_append, hl1, show g.offset - f.offset - P.cellsOf f.type = g.offset - (f.offset + P.cellsOf f.type) by omega]
        exact p2

theorem glue_elems {ok : List AV → Prop} {cs : List Value} {sz : Nat} : ∀ (n k : Nat), cs.length = (k + n) * sz →
    (∀ i, i < k + n → ∃ as, RL0 w as ((cs.drop (i * sz)).take sz) ∧ as.all AV.flat = true ∧ ok as) →
    ∃ as, RL0 w as (cs.drop (k * sz)) ∧ as.all AV.flat = true ∧ ∀ i, i < n → ok ((as.drop (i * sz)).take sz)
  | 0, k, hl, _ => ⟨[], ⟨by rw [Nat.add_zero] at hl; simp; omega, by simp⟩, rfl, fun i hi => by omega⟩
  | n + 1, k, hl, h => by
    obtain ⟨as1, h1, h2, h3⟩ := h k (by omega)
    obtain ⟨as2, q1, q2, q3⟩ := glue_elems (ok := ok) n (k + 1) (by rw [hl]; congr 1; omega) fun i hi => h i (by omega)
    have hle : k * sz + sz ≤ cs.length := by rw [hl, ← Nat.succ_mul]; exact Nat.mul_le_mul_right _ (by omega)
    have hl1 : as1.length = sz := by rw [h1.1]; simp; omega
    refine ⟨as1 ++ as2, ?_, by simp [List.all_append, h2, q2], fun i hi => ?_⟩
    · have e : cs.drop (k * sz) = (cs.drop (k * sz)).take sz ++ cs.drop ((k + 1) * sz) := by
        rw [Nat.succ_mul, ← List.drop_drop, List.take_append_drop]
      rw [e]; exact h1.append q1
    · cases i with
      | zero =>
        rw [Nat.zero_mul, List.drop_zero, List.take_append_of_le_length (by omega), List.take_of_length_le (by omega)]
        exact h3
      | succ i =>
        have := q3 i (by omega)
        rw [List.drop_append, List.drop_of_length_le (by rw [hl1, Nat.succ_mul]; omega), List.nil_append, hl1, Nat.succ_mul, Nat.add_sub_cancel]
        exact this

theorem trod_flat : ∀ (D fuel : Nat) (t : TypeId) (cs : List Value) (x : DataW H × List MemPlace), plainTy P D t = true → DataW.trod enc P w 0 (fun _ => true) true fuel t cs = some x → (∀ n, n ∈ x.1.weights P t → n ≤ reachBytes) →
    ∃ as, RL0 w as cs ∧ as.all AV.flat = true ∧ OkCells P D t as ∧ as.length = P.cellsOf t
  | 0, _, _, _, _, hp, _, _ => by simp [plainTy] at hp
  | D + 1, fuel, t, cs, x, hp, h, hw => by
    unfold plainTy at hp
    unfold OkCells
    split at hp
    · rename_i k hu
      obtain ⟨n, rfl, rfl, hn⟩ := DataW.trod_int hu h
      simp only [beq_iff_eq] at hp
      exact ⟨[.int k n], ⟨rfl, fun i a v h1 h2 => by cases i <;> simp at h1 h2; subst h1 h2; exact .int k n⟩, rfl, ⟨n, rfl, hn⟩, hp.symm⟩
    · rename_i hu
      obtain ⟨b, rfl, rfl⟩ := DataW.trod_bool hu h
      simp only [beq_iff_eq] at hp
      exact ⟨[.bool b], ⟨rfl, fun i a v h1 h2 => by cases i <;> simp at h1 h2; subst h1 h2; exact .bool b⟩, rfl, ⟨b, rfl⟩, hp.symm⟩
    · rename_i hu
      obtain ⟨s, rfl, rfl, hs⟩ := DataW.trod_string hu h
      simp only [beq_iff_eq] at hp
      have hr : s.size ≤ reachBytes := by
        have := hw s.data.toList.length (by simp [DataW.weights])
        simpa using this
      exact ⟨[.str s], ⟨rfl, fun i a v h1 h2 => by cases i <;> simp at h1 h2; subst h1 h2; exact .str s⟩, rfl, ⟨s, rfl, hs, hr⟩, hp.symm⟩
    · rename_i e hu
      simp only [Bool.and_eq_true, beq_iff_eq, Bool.not_eq_true', beq_eq_false_iff_ne] at hp
      rcases DataW.trod_slice hu h with ⟨rfl, rfl⟩ | ⟨a, len, cap, elems, rest, n, _, rfl, rfl, hb, hlc, hcm, hlen, hel, hsp, hns⟩
      · refine ⟨[.rsl (P.cellsOf e) []], ⟨rfl, fun i a v h1 h2 => by cases i <;> simp at h1 h2; subst h1 h2; exact .rsl0 _ _ _ fun _ => rfl⟩, rfl, ⟨[], rfl, by simp, by simp, by simp⟩, hp.1.1.symm⟩
      · have hwt : (elems.length + rest.length) * P.bytesOf e ≤ reachBytes := by
          have := hw ((elems.length + rest.length) * P.bytesOf e) (by simp [DataW.weights, hu])
          exact this
        -- each element
        have hrow : ∀ i, i < len → ∃ cs' as, w.cells? 0 (a.add (i * P.cellsOf e)) (P.cellsOf e) = some cs' ∧ RL0 w as cs' ∧ as.all AV.flat = true ∧ OkCells P D e as ∧ as.length = P.cellsOf e := by
          intro i hi
          have hi' : i < elems.length := by omega
          have := hel i hi
          rw [show elems[i]? = some elems[i] by simp [hi']] at this
          cases hc : w.cells? 0 (a.add (i * P.cellsOf e)) (P.cellsOf e) with
          | none => rw [hc] at this; simp at this
          | some cs' =>
            rw [hc] at this
            simp only [Option.bind_some] at this
            obtain ⟨as, q1, q2, q3, q4⟩ := trod_flat D n e cs' elems[i] hp.2 this (fun k hk => hw k (by
              simp only [DataW.weights, hu, List.mem_cons, List.mem_append]
              refine .inr (.inl ?_)
              have hall : ∀ (l : List (DataW H)) (y : DataW H), y ∈ l → k ∈ y.weights P e → k ∈ DataW.weightsAll P e l := by
                intro l
                induction l with
                | nil => intro y hy; cases hy
                | cons z l ih =>
                  intro y hy hk
                  simp only [DataW.weightsAll, List.mem_append]
                  rcases List.mem_cons.1 hy with rfl | hy
                  · exact .inl hk
                  · exact .inr (ih y hy hk)
              exact hall _ _ (List.mem_map_of_mem (List.getElem_mem hi')) hk))
            exact ⟨cs', as, rfl, q1, q2, q3, q4⟩
        cases len with
        | zero =>
          exact ⟨[.rsl (P.cellsOf e) []], ⟨rfl, fun i a v h1 h2 => by cases i <;> simp at h1 h2; subst h1 h2; exact .rsl0 _ _ _ fun h => by cases h⟩, rfl, ⟨[], rfl, by simp, by simp, by simp⟩, hp.1.1.symm⟩
        | succ len' =>
          generalize hlen1 : len' + 1 = len at *
          have hpos : 0 < len := by omega
          -- choose the rows
          have hch : ∃ (rows : List (List AV)), rows.length = len ∧ ∀ i row, rows[i]? = some row → ∃ cs', w.cells? 0 (a.add (i * P.cellsOf e)) (P.cellsOf e) = some cs' ∧ RL0 w row cs' ∧ row.all AV.flat = true ∧ OkCells P D e row ∧ row.length = P.cellsOf e := by
            have gen : ∀ k, k ≤ len → ∃ (rows : List (List AV)), rows.length = k ∧ ∀ i row, rows[i]? = some row → ∃ cs', w.cells? 0 (a.add (i * P.cellsOf e)) (P.cellsOf e) = some cs' ∧ RL0 w row cs' ∧ row.all AV.flat = true ∧ OkCells P D e row ∧ row.length = P.cellsOf e := by
              intro k
              induction k with
              | zero => intro _; exact ⟨[], rfl, by simp⟩
              | succ k ih =>
                intro hk
                obtain ⟨rows, r1, r2⟩ := ih (by omega)
                obtain ⟨cs', as, q⟩ := hrow k (by omega)
                refine ⟨rows ++ [as], by simp [r1], fun i row hi => ?_⟩
                rw [List.getElem?_append] at hi
                split at hi
                · exact r2 i row hi
                · rename_i hge
                  have hik : i = k := by
                    have h3 := (List.getElem?_eq_some_iff.1 hi).1
                    simp only [List.length_singleton] at h3
                    omega
                  subst hik
                  simp only [r1, Nat.sub_self, List.getElem?_cons_zero, Option.some.injEq] at hi
                  subst hi
                  exact ⟨cs', q⟩
            exact gen len (Nat.le_refl _)
          obtain ⟨rows, hrl, hrows⟩ := hch
          have hlen2 : rows.length * P.bytesOf e ≤ reachBytes := Nat.le_trans (Nat.mul_le_mul_right _ (by omega)) hwt
          refine ⟨[.rsl (P.cellsOf e) rows], ⟨rfl, fun i' a' v h1 h2 => ?_⟩, rfl, ⟨rows, rfl, by omega, hlen2, fun row hr => ?_⟩, hp.1.1.symm⟩
          · cases i' <;> simp at h1 h2
            subst h1 h2
            · have hz := hp.1.2
              have hcell : ∀ i row j b, rows[i]? = some row → row[j]? = some b → ∃ v, w.cell? (a.add (i * P.cellsOf e + j)) = some v ∧ RV w (fun _ => False) (fun _ => False) id b v ∧ b.flat = true := by
                intro i row j b hi hj
                obtain ⟨cs', c1, c2, c3, c4, c5⟩ := hrows i row hi
                have hjl : j < P.cellsOf e := by have := (List.getElem?_eq_some_iff.1 hj).1; omega
                have hjc : j < cs'.length := by rw [← c2.1]; omega
                unfold World.cells? at c1
                rw [if_pos (Nat.zero_le _)] at c1
                have := mapM_some_get c1 j j (by simp [hjl])
                rw [show cs'[j]? = some cs'[j] by simp [hjc]] at this
                refine ⟨cs'[j], ?_, c2.2 j b _ hj (by simp [hjc]), List.all_eq_true.1 c3 b (List.mem_of_getElem? hj)⟩
                rw [← this]
                congr 1
                exact (Addr.add_add _ _ _).symm
              -- the address is plain
              have hspot : ∃ cb co, a = ⟨cb, co, none⟩ := by
                have h0 : rows[0]? = some rows[0] := by simp [hrl, hpos]
                have hl0 : rows[0].length = P.cellsOf e := by obtain ⟨_, _, _, _, _, h⟩ := hrows 0 _ h0; exact h
                obtain ⟨v, hv, _⟩ := hcell 0 rows[0] 0 (rows[0][0]'(by omega)) h0 (by simp)
                obtain ⟨cb, co, sp⟩ := a
                cases sp with
                | none => exact ⟨cb, co, rfl⟩
                | some s =>
                  exfalso
                  unfold World.cell? at hv
                  split at hv
                  · simp [Addr.add] at hv
                  · cases hv
              obtain ⟨cb, co, rfl⟩ := hspot
              have hlt : cb < w.heap.size := by
                have h0 : rows[0]? = some rows[0] := by simp [hrl, hpos]
                have hl0 : rows[0].length = P.cellsOf e := by obtain ⟨_, _, _, _, _, h⟩ := hrows 0 _ h0; exact h
                obtain ⟨v, hv, _⟩ := hcell 0 rows[0] 0 (rows[0][0]'(by omega)) h0 (by simp)
                rw [Addr.add_lit] at hv
                unfold World.cell? at hv
                split at hv
                · rename_i hh; exact (Array.getElem?_eq_some_iff.1 hh).1
                · cases hv
              have hflat : flatRows rows := fun row hr b hb => by
                obtain ⟨i, hi⟩ := List.getElem?_of_mem hr
                obtain ⟨_, _, _, c3, _, _⟩ := hrows i row hi
                exact List.all_eq_true.1 c3 b hb
              have := RV.rsl (w := w) (F := fun _ => False) (A := fun _ => False) (m := id) (P.cellsOf e) rows cb co cap (fun i j => ((w.cell? ⟨cb, co + (i * P.cellsOf e + j), none⟩)).getD undef) (fun h => h) hlt (by omega)
                (fun row hr => by
                  obtain ⟨i, hi⟩ := List.getElem?_of_mem hr
                  obtain ⟨_, _, _, _, _, h⟩ := hrows i row hi
                  exact h) hflat
                (fun i row j b h1 h2 => by
                  obtain ⟨v, q1, q2, q3⟩ := hcell i row j b h1 h2
                  have q1 : w.cell? ⟨cb, co + (i * P.cellsOf e + j), none⟩ = some v := by rw [Addr.add_lit] at q1; exact q1
                  rw [q1]
                  refine ⟨rfl, ?_⟩
                  simp only [Option.getD_some]
                  cases q2 <;> first | rfl | (simp [AV.flat] at q3))
                (fun i row j b h1 h2 => by
                  obtain ⟨v, q1, q2, q3⟩ := hcell i row j b h1 h2
                  have q1 : w.cell? ⟨cb, co + (i * P.cellsOf e + j), none⟩ = some v := by rw [Addr.add_lit] at q1; exact q1
                  rw [q1]; exact q2)
              rw [hrl] at this
              exact this
          · obtain ⟨i, hi⟩ := List.getElem?_of_mem hr
            obtain ⟨_, _, _, _, h, _⟩ := hrows i row hi
            exact h
    · rename_i fs hu
      simp only [Bool.and_eq_true, List.all_eq_true] at hp
      obtain ⟨xs, n, _, rfl, hl, hxl, hx⟩ := DataW.trod_struct hu h
      obtain ⟨as, q1, q2, q3⟩ := glue_fields (w := w) (P := P) (ok := fun t as => OkCells P D t as) (cs := cs) (total := P.cellsOf t) hl fs.toList 0 hp.1 fun f hf => by
        obtain ⟨i, hi⟩ := List.getElem?_of_mem hf
        have hil : i < fs.size := by have := (List.getElem?_eq_some_iff.1 hi).1; simpa using this
        have hxi := hx i f (by simpa using hi)
        have hil2 : i < xs.length := by omega
        rw [show xs[i]? = some xs[i] by simp [hil2]] at hxi
        obtain ⟨as, q1, q2, q3, _⟩ := trod_flat D n f.type _ xs[i] (hp.2 f hf) hxi fun k hk => hw k (by
          simp only [DataW.weights, hu]
          refine DataW.weights_mem_each (j := i) (t := f.type) (d := xs[i].1) ?_ ?_ k hk
          · rw [List.getElem?_map, hi]; rfl
          · simp [hil2])
        exact ⟨as, q1, q2, q3⟩
      refine ⟨as, by simpa using q1, q2, ⟨?_, fun f hf => ?_⟩, ?_⟩
      · rw [q1.1]; simpa using hl
      · have := (q3 f hf).2
        simpa using this
      · rw [q1.1]; simpa using hl
    · rename_i n e hu
      simp only [Bool.and_eq_true, beq_iff_eq] at hp
      obtain ⟨xs, m, _, rfl, hl, hxl, hx⟩ := DataW.trod_array hu h
      obtain ⟨as, q1, q2, q3⟩ := glue_elems (w := w) (ok := fun as => OkCells P D e as) (cs := cs) (sz := P.cellsOf e) n 0 (by rw [hl, hp.1, Nat.zero_add]) fun i hi => by
        have hi : i < n := by omega
        have hxi := hx i hi
        have hil2 : i < xs.length := by omega
        rw [show xs[i]? = some xs[i] by simp [hil2]] at hxi
        obtain ⟨as, q1, q2, q3, _⟩ := trod_flat D m e _ xs[i] hp.2 hxi fun k hk => hw k (by
          simp only [DataW.weights, hu]
          have hall : ∀ (l : List (DataW H)) (y : DataW H), y ∈ l → k ∈ y.weights P e → k ∈ DataW.weightsAll P e l := by
            intro l
            induction l with
            | nil => intro y hy; cases hy
            | cons z l ih =>
              intro y hy hk
              simp only [DataW.weightsAll, List.mem_append]
              rcases List.mem_cons.1 hy with rfl | hy
              · exact .inl hk
              · exact .inr (ih y hy hk)
          exact hall _ _ (List.mem_map_of_mem (List.getElem_mem hil2)) hk)
        exact ⟨as, q1, q2, q3⟩
      refine ⟨as, by simpa using q1, q2, ⟨?_, fun i hi => q3 i hi⟩, ?_⟩
      · rw [q1.1]; simpa using hl
      · rw [q1.1]; simpa using hl
    · cases hp
end
end Go.Abs
