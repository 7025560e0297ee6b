/-
  What goes out of a gadget is right, whatever the tape.
-/
import Derived.Test.YthignlpdeaglaaaI2
set_option linter.unusedSimpArgs false
set_option linter.unusedVariables false
namespace Go.Abs
theorem at0_lt (w l : List (BitVec 32)) (i : Nat) (h : i < w.length) : at0 (w ++ l) i = at0 w i := by
  simp only [at0, List.getD_eq_getElem?_getD, List.getElem?_append_left h]
theorem at0_ge (w l : List (BitVec 32)) (i : Nat) : at0 (w ++ l) (w.length + i) = at0 l i := by
  simp only [at0, List.getD_eq_getElem?_getD, List.getElem?_append_right (Nat.le_add_right _ _), Nat.add_sub_cancel_left]
theorem xorL_set (l : List (BitVec 32)) : ∀ (i : Nat) (x : BitVec 32), i < l.length → xorL (l.set i (at0 l i ^^^ x)) = xorL l ^^^ x := by
  induction l with
  | nil => intro i x h; simp at h
  | cons y l ih =>
    intro i x h
    cases i with
    | zero => simp only [List.set_cons_zero, xorL_cons]; simp only [at0, List.getD_cons_zero]; rw [BitVec.xor_assoc, BitVec.xor_comm x, BitVec.xor_assoc]
    | succ i =>
      have := ih i x (by simpa using h)
      simp only [List.set_cons_succ, xorL_cons]
      have e : at0 (y :: l) (i + 1) = at0 l i := rfl
      rw [e, this, BitVec.xor_assoc]
theorem xorL_flat {α : Type} (f : α → List (BitVec 32)) : ∀ l : List α, xorL (l.flatMap f) = xorL (l.map fun x => xorL (f x))
  | [] => rfl
  | x :: l => by rw [List.flatMap_cons, xorL_append, List.map_cons, xorL_cons, xorL_flat f l]
theorem xorL_map {α : Type} (f g : α → BitVec 32) : ∀ l : List α, xorL (l.map fun x => f x ^^^ g x) = xorL (l.map f) ^^^ xorL (l.map g)
  | [] => by simp
  | x :: l => by
    simp only [List.map_cons, xorL_cons, xorL_map f g l]
    rw [BitVec.xor_assoc, BitVec.xor_assoc, ← BitVec.xor_assoc (g x), BitVec.xor_comm (g x), BitVec.xor_assoc]
theorem and_xorW (x y z : BitVec 32) : x &&& (y ^^^ z) = (x &&& y) ^^^ (x &&& z) := by
  ext i hi; simp [Bool.and_xor_distrib_left]
theorem xor_andW (x y z : BitVec 32) : (y ^^^ z) &&& x = (y &&& x) ^^^ (z &&& x) := by
  ext i hi; simp [Bool.and_xor_distrib_right]
theorem xorL_and (x : BitVec 32) : ∀ l : List (BitVec 32), x &&& xorL l = xorL (l.map fun y => x &&& y)
  | [] => by simp
  | y :: l => by rw [List.map_cons, xorL_cons, xorL_cons, ← xorL_and x l, and_xorW]
theorem xorL_and' (x : BitVec 32) (l : List (BitVec 32)) : xorL l &&& x = xorL (l.map fun y => y &&& x) := by
  rw [BitVec.and_comm, xorL_and]; congr 1; apply List.map_congr_left; intro y _; exact BitVec.and_comm _ _
theorem prod_pairs (a b : Nat → BitVec 32) : ∀ d, xorL ((List.range (d + 1)).map a) &&& xorL ((List.range (d + 1)).map b) =
    xorL ((List.range (d + 1)).map fun i => a i &&& b i) ^^^ xorL ((pairsN d).map fun p => (a p.1 &&& b p.2) ^^^ (a p.2 &&& b p.1)) := by
  intro d
  have row : ∀ (f : Nat → Nat → BitVec 32) d, xorL ((pairsN d).map fun p => f p.1 p.2) = xorL ((List.range (d + 1)).map fun i => xorL ((List.range' (i + 1) (d - i)).map (f i))) := by
    intro f d
    unfold pairsN
    rw [List.map_flatMap, xorL_flat]
    congr 1
    apply List.map_congr_left
    intro i _
    rw [List.map_map]; rfl
  have step : ∀ (f : Nat → Nat → BitVec 32) d, xorL ((pairsN (d + 1)).map fun p => f p.1 p.2) = xorL ((pairsN d).map fun p => f p.1 p.2) ^^^ xorL ((List.range (d + 1)).map fun i => f i (d + 1)) := by
    intro f d
    rw [row, row, List.range_succ, List.map_append, xorL_append, ← xorL_map]
    have h0 : xorL ([d + 1].map fun i => xorL ((List.range' (i + 1) (d + 1 - i)).map (f i))) = 0#32 := by simp [xorL_cons]
    rw [h0, BitVec.xor_zero]
    congr 1
    apply List.map_congr_left
    intro i hi
    rw [List.mem_range] at hi
    have e1 : d + 1 - i = (d - i) + 1 := by omega
    rw [e1, List.range'_concat, List.map_append, xorL_append]
    have e2 : i + 1 + 1 * (d - i) = d + 1 := by omega
    rw [e2]; simp [xorL_cons]
  induction d with
  | zero =>
    have : pairsN 0 = [] := rfl
    simp [this, xorL_cons]
  | succ d ih =>
    rw [step (fun i j => (a i &&& b j) ^^^ (a j &&& b i)), List.range_succ (n := d + 1), List.map_append, List.map_append, List.map_append, xorL_append, xorL_append, xorL_append]
    simp only [List.map_cons, List.map_nil, xorL_cons, xorL_nil, BitVec.xor_zero]
    rw [and_xorW, xor_andW, xor_andW, ih, xorL_map (fun i => a i &&& b (d + 1)) (fun i => a (d + 1) &&& b i), xorL_and, xorL_and', List.map_map, List.map_map]
    simp only [Function.comp_def]
    generalize xorL (List.map (fun i => a i &&& b i) (List.range (d + 1))) = A
    generalize xorL (List.map (fun p => a p.1 &&& b p.2 ^^^ a p.2 &&& b p.1) (pairsN d)) = B
    generalize xorL (List.map (fun x => a (d + 1) &&& b x) (List.range (d + 1))) = C
    generalize xorL (List.map (fun x => a x &&& b (d + 1)) (List.range (d + 1))) = D
    generalize a (d + 1) &&& b (d + 1) = E
    ac_rfl
structure GadOk (and : Bool) (d : Nat) (w0 t : List (BitVec 32)) (s : GadS) (E : BitVec 32) : Prop where
  len : s.outs.length = d + 1
  lt : ∀ k, k < d + 1 → 0 ≤ ati s.outs k ∧ outN s k < gadIn and d + s.ops.length
  sum : xorL ((List.range (d + 1)).map fun k => at0 (runOps s.ops w0 t) (outN s k)) = E
theorem map_range_set {α : Type} (f : Nat → α) (n k : Nat) (x : α) : ((List.range n).map f).set k x = (List.range n).map fun i => if i = k then x else f i := by
  apply List.ext_getElem?
  intro j
  rw [List.getElem?_set]
  by_cases hj : j < n
  · by_cases e : k = j
    · subst e; simp [hj]
    · have e2 : ¬ j = k := fun q => e q.symm
      simp [hj, e, e2]
  · by_cases e : k = j
    · subst e; simp [hj]
    · simp [hj, e]
theorem at0_map (f : Nat → BitVec 32) (n k : Nat) (h : k < n) : at0 ((List.range n).map f) k = f k := by
  simp [at0, List.getD_eq_getElem?_getD, h]
theorem ati_set (l : List Int) (i k : Nat) (x : Int) (h : i < l.length) : ati (l.set i x) k = if k = i then x else ati l k := by
  simp only [ati, List.getD_eq_getElem?_getD, List.getElem?_set]
  by_cases e : i = k
  · subst e; simp [h]
  · have e2 : ¬ k = i := fun q => e q.symm
    simp [e, e2]
theorem sum_two (f g : Nat → BitVec 32) (n i j : Nat) (x y : BitVec 32) (hi : i < n) (hj : j < n) (hij : i ≠ j) (h : ∀ k, k < n → g k = if k = j then f j ^^^ y else if k = i then f i ^^^ x else f k) :
    xorL ((List.range n).map g) = xorL ((List.range n).map f) ^^^ x ^^^ y := by
  have e1 : (List.range n).map g = ((((List.range n).map f).set i (at0 ((List.range n).map f) i ^^^ x)).set j (at0 (((List.range n).map f).set i (at0 ((List.range n).map f) i ^^^ x)) j ^^^ y)) := by
    rw [at0_map _ _ _ hi, map_range_set, at0_map _ _ _ hj, map_range_set]
    apply List.map_congr_left
    intro k hk
    rw [h k (by simpa using hk)]
    have : ¬ j = i := fun q => hij q.symm
    simp [this]
  rw [e1, xorL_set _ _ _ (by simpa using hj), xorL_set _ _ _ (by simpa using hi)]
end Go.Abs
