import Derived.Test.YteohnepdbjmghaaSo4
import Derived.Test.YteohnepdbjmghaaC4
import Derived.Test.YteohnepdbjmghaaL02bF
import Derived.Test.YteohnepdbjmghaaKw
import Derived.Test.YteohnepdbjmghaaC16
import Derived.Test.YteohnepdbjmghaaSA
import Derived.Test.YteohnepdbjmghaaTp
section
set_option linter.unusedSimpArgs false
set_option linter.unusedVariables false
namespace Go.Abs
open Th
def readL (i : InsM) : List Int :=
  if i.op = 1 ∨ i.op = 2 ∨ i.op = 3 then [i.d] else if i.op = 4 ∨ i.op = 5 ∨ i.op = 6 then [i.m] else if i.op = 7 ∨ i.op = 8 ∨ i.op = 14 then [i.n, i.m]
  else if i.op = 9 ∨ i.op = 10 ∨ i.op = 12 then [i.n] else if i.op = 13 then [i.n, i.d] else if i.op = 15 then [i.n, i.m, i.d]
  else if i.op = 11 then (if i.imm = 9 ∨ i.imm = 15 then [i.m] else [i.m, i.d]) else []
def readsM (i : InsM) : List Int := if i.can = true then compactI (sortI (readL i)) else []
theorem rowsK_ints (l : List Int) : rowsK .i64 l = ints l := rfl
theorem sort_of {b n : Nat} {H : AHeap} {r : Option (AV × AHeap)} (hr : slices_Sort_int.spec [.sl b 1 0 n] H = r) (l : List Int) (hn : l.length = n) (hl : n ≤ 1000000000) {ty : TypeId} (hb : H.get b = some ⟨ty, 1, true, ints l⟩) :
    r = some (.tup [], H.set b (some ⟨ty, 1, true, ints (sortI l)⟩)) := by
  subst hr hn
  have h1 : intsK .i64 ((ints l).take l.length) = some l := by
    rw [show (ints l).take l.length = rowsK .i64 l from List.take_of_length_le (by simp)]; exact intsK_rows _ l
  have h2 : (ints l).drop l.length = [] := List.drop_of_length_le (by simp)
  simp only [slices_Sort_int.spec, sortSpec, sort1, hb]
  rw [if_pos ⟨trivial, trivial, by simp, by omega⟩]
  simp only [List.drop_zero, h1, Nat.zero_add, h2, List.take_zero, List.nil_append, List.append_nil, rowsK_ints]
theorem compact_of {b n : Nat} {H : AHeap} {r : Option (AV × AHeap)} (hr : slices_Compact_int.spec [.sl b 1 0 n] H = r) (l : List Int) (hn : l.length = n) (hl : n ≤ 1000000000) {ty : TypeId} (hb : H.get b = some ⟨ty, 1, true, ints l⟩) (hw : H.WF) :
    ∃ H' z, r = some (.sl b 1 0 (compactI l).length, H') ∧ H'.get b = some ⟨ty, 1, true, ints (compactI l ++ z)⟩ ∧ H'.WF ∧ H'.next = H.next ∧ ∀ c, c ≠ b → H'.get c = H.get c := by
  subst hr hn
  obtain ⟨v, H', h, h1, h2, h3, h4, z, h5⟩ := Compact_eq l hl b ty H hw hb
  subst h1
  exact ⟨H', z, h, h5, h2, h3, h4⟩
theorem ints_front (l z : List Int) : (ints (l ++ z)).take l.length = ints l := by rw [ints_take, List.take_left]
theorem sort_nils (H : AHeap) : slices_Sort_int.spec [.nils] H = some (.tup [], H) := rfl
theorem reads_0 (d n m imm : Int) (hc : thumb_can.spec [.agg [.int .i64 0, .int .i64 d, .int .i64 n, .int .i64 m, .int .i64 imm]] = some (.bool true)) :
    thumb_Reads.spec [.agg [.int .i64 0, .int .i64 d, .int .i64 n, .int .i64 m, .int .i64 imm]] = some (.rsl 1 (ints (compactI (sortI [])))) := by
  have e : compactI (sortI []) = [] := by simp [sortI, compactI]
  rw [e]
  simp -implicitDefEqProofs +contextual (disch := omega) [thumb_Reads.spec, thumb_Reads, hc, sort_nils, slices_Compact_int.spec, slices_Compact_int, ints]
theorem reads_1 (d n m imm : Int) (hc : thumb_can.spec [.agg [.int .i64 1, .int .i64 d, .int .i64 n, .int .i64 m, .int .i64 imm]] = some (.bool true)) :
    thumb_Reads.spec [.agg [.int .i64 1, .int .i64 d, .int .i64 n, .int .i64 m, .int .i64 imm]] = some (.rsl 1 (ints (compactI (sortI [d])))) := by
  simp -implicitDefEqProofs +contextual (disch := omega) [thumb_Reads.spec, thumb_Reads, hc]
  generalize hr : slices_Sort_int.spec _ _ = r
  obtain rfl := sort_of hr [d] rfl (by omega) (ty := T.ty_int) (by simp [ints])
  simp -implicitDefEqProofs +contextual (disch := omega) []
  generalize hr : slices_Compact_int.spec _ _ = r
  obtain ⟨H', z, rfl, g, hw, hn, ho⟩ := compact_of hr (sortI [d]) (by rw [sortI_length]; rfl) (by omega) (ty := T.ty_int) (by simp) (by (repeat' (first | assumption | with_reducible apply AHeap.WF.push | with_reducible apply AHeap.WF.set | with_reducible apply killAll_wf | exact AHeap.WF.empty)) <;> (simp <;> omega))
  have hf := ints_front (compactI (sortI [d])) z
  simp -implicitDefEqProofs +contextual (disch := omega) [g, hf]
theorem reads_2 (d n m imm : Int) (hc : thumb_can.spec [.agg [.int .i64 2, .int .i64 d, .int .i64 n, .int .i64 m, .int .i64 imm]] = some (.bool true)) :
    thumb_Reads.spec [.agg [.int .i64 2, .int .i64 d, .int .i64 n, .int .i64 m, .int .i64 imm]] = some (.rsl 1 (ints (compactI (sortI [d])))) := by
  simp -implicitDefEqProofs +contextual (disch := omega) [thumb_Reads.spec, thumb_Reads, hc]
  generalize hr : slices_Sort_int.spec _ _ = r
  obtain rfl := sort_of hr [d] rfl (by omega) (ty := T.ty_int) (by simp [ints])
  simp -implicitDefEqProofs +contextual (disch := omega) []
  generalize hr : slices_Compact_int.spec _ _ = r
  obtain ⟨H', z, rfl, g, hw, hn, ho⟩ := compact_of hr (sortI [d]) (by rw [sortI_length]; rfl) (by omega) (ty := T.ty_int) (by simp) (by (repeat' (first | assumption | with_reducible apply AHeap.WF.push | with_reducible apply AHeap.WF.set | with_reducible apply killAll_wf | exact AHeap.WF.empty)) <;> (simp <;> omega))
  have hf := ints_front (compactI (sortI [d])) z
  simp -implicitDefEqProofs +contextual (disch := omega) [g, hf]
theorem reads_3 (d n m imm : Int) (hc : thumb_can.spec [.agg [.int .i64 3, .int .i64 d, .int .i64 n, .int .i64 m, .int .i64 imm]] = some (.bool true)) :
    thumb_Reads.spec [.agg [.int .i64 3, .int .i64 d, .int .i64 n, .int .i64 m, .int .i64 imm]] = some (.rsl 1 (ints (compactI (sortI [d])))) := by
  simp -implicitDefEqProofs +contextual (disch := omega) [thumb_Reads.spec, thumb_Reads, hc]
  generalize hr : slices_Sort_int.spec _ _ = r
  obtain rfl := sort_of hr [d] rfl (by omega) (ty := T.ty_int) (by simp [ints])
  simp -implicitDefEqProofs +contextual (disch := omega) []
  generalize hr : slices_Compact_int.spec _ _ = r
  obtain ⟨H', z, rfl, g, hw, hn, ho⟩ := compact_of hr (sortI [d]) (by rw [sortI_length]; rfl) (by omega) (ty := T.ty_int) (by simp) (by (repeat' (first | assumption | with_reducible apply AHeap.WF.push | with_reducible apply AHeap.WF.set | with_reducible apply killAll_wf | exact AHeap.WF.empty)) <;> (simp <;> omega))
  have hf := ints_front (compactI (sortI [d])) z
  simp -implicitDefEqProofs +contextual (disch := omega) [g, hf]
theorem reads_4 (d n m imm : Int) (hc : thumb_can.spec [.agg [.int .i64 4, .int .i64 d, .int .i64 n, .int .i64 m, .int .i64 imm]] = some (.bool true)) :
    thumb_Reads.spec [.agg [.int .i64 4, .int .i64 d, .int .i64 n, .int .i64 m, .int .i64 imm]] = some (.rsl 1 (ints (compactI (sortI [m])))) := by
  simp -implicitDefEqProofs +contextual (disch := omega) [thumb_Reads.spec, thumb_Reads, hc]
  generalize hr : slices_Sort_int.spec _ _ = r
  obtain rfl := sort_of hr [m] rfl (by omega) (ty := T.ty_int) (by simp [ints])
  simp -implicitDefEqProofs +contextual (disch := omega) []
  generalize hr : slices_Compact_int.spec _ _ = r
  obtain ⟨H', z, rfl, g, hw, hn, ho⟩ := compact_of hr (sortI [m]) (by rw [sortI_length]; rfl) (by omega) (ty := T.ty_int) (by simp) (by (repeat' (first | assumption | with_reducible apply AHeap.WF.push | with_reducible apply AHeap.WF.set | with_reducible apply killAll_wf | exact AHeap.WF.empty)) <;> (simp <;> omega))
  have hf := ints_front (compactI (sortI [m])) z
  simp -implicitDefEqProofs +contextual (disch := omega) [g, hf]
theorem reads_5 (d n m imm : Int) (hc : thumb_can.spec [.agg [.int .i64 5, .int .i64 d, .int .i64 n, .int .i64 m, .int .i64 imm]] = some (.bool true)) :
    thumb_Reads.spec [.agg [.int .i64 5, .int .i64 d, .int .i64 n, .int .i64 m, .int .i64 imm]] = some (.rsl 1 (ints (compactI (sortI [m])))) := by
  simp -implicitDefEqProofs +contextual (disch := omega) [thumb_Reads.spec, thumb_Reads, hc]
  generalize hr : slices_Sort_int.spec _ _ = r
  obtain rfl := sort_of hr [m] rfl (by omega) (ty := T.ty_int) (by simp [ints])
  simp -implicitDefEqProofs +contextual (disch := omega) []
  generalize hr : slices_Compact_int.spec _ _ = r
  obtain ⟨H', z, rfl, g, hw, hn, ho⟩ := compact_of hr (sortI [m]) (by rw [sortI_length]; rfl) (by omega) (ty := T.ty_int) (by simp) (by (repeat' (first | assumption | with_reducible apply AHeap.WF.push | with_reducible apply AHeap.WF.set | with_reducible apply killAll_wf | exact AHeap.WF.empty)) <;> (simp <;> omega))
  have hf := ints_front (compactI (sortI [m])) z
  simp -implicitDefEqProofs +contextual (disch := omega) [g, hf]
theorem reads_6 (d n m imm : Int) (hc : thumb_can.spec [.agg [.int .i64 6, .int .i64 d, .int .i64 n, .int .i64 m, .int .i64 imm]] = some (.bool true)) :
    thumb_Reads.spec [.agg [.int .i64 6, .int .i64 d, .int .i64 n, .int .i64 m, .int .i64 imm]] = some (.rsl 1 (ints (compactI (sortI [m])))) := by
  simp -implicitDefEqProofs +contextual (disch := omega) [thumb_Reads.spec, thumb_Reads, hc]
  generalize hr : slices_Sort_int.spec _ _ = r
  obtain rfl := sort_of hr [m] rfl (by omega) (ty := T.ty_int) (by simp [ints])
  simp -implicitDefEqProofs +contextual (disch := omega) []
  generalize hr : slices_Compact_int.spec _ _ = r
  obtain ⟨H', z, rfl, g, hw, hn, ho⟩ := compact_of hr (sortI [m]) (by rw [sortI_length]; rfl) (by omega) (ty := T.ty_int) (by simp) (by (repeat' (first | assumption | with_reducible apply AHeap.WF.push | with_reducible apply AHeap.WF.set | with_reducible apply killAll_wf | exact AHeap.WF.empty)) <;> (simp <;> omega))
  have hf := ints_front (compactI (sortI [m])) z
  simp -implicitDefEqProofs +contextual (disch := omega) [g, hf]
theorem reads_7 (d n m imm : Int) (hc : thumb_can.spec [.agg [.int .i64 7, .int .i64 d, .int .i64 n, .int .i64 m, .int .i64 imm]] = some (.bool true)) :
    thumb_Reads.spec [.agg [.int .i64 7, .int .i64 d, .int .i64 n, .int .i64 m, .int .i64 imm]] = some (.rsl 1 (ints (compactI (sortI [n, m])))) := by
  simp -implicitDefEqProofs +contextual (disch := omega) [thumb_Reads.spec, thumb_Reads, hc]
  generalize hr : slices_Sort_int.spec _ _ = r
  obtain rfl := sort_of hr [n, m] rfl (by omega) (ty := T.ty_int) (by simp [ints])
  simp -implicitDefEqProofs +contextual (disch := omega) []
  generalize hr : slices_Compact_int.spec _ _ = r
  obtain ⟨H', z, rfl, g, hw, hn, ho⟩ := compact_of hr (sortI [n, m]) (by rw [sortI_length]; rfl) (by omega) (ty := T.ty_int) (by simp) (by (repeat' (first | assumption | with_reducible apply AHeap.WF.push | with_reducible apply AHeap.WF.set | with_reducible apply killAll_wf | exact AHeap.WF.empty)) <;> (simp <;> omega))
  have hf := ints_front (compactI (sortI [n, m])) z
  simp -implicitDefEqProofs +contextual (disch := omega) [g, hf]
theorem reads_8 (d n m imm : Int) (hc : thumb_can.spec [.agg [.int .i64 8, .int .i64 d, .int .i64 n, .int .i64 m, .int .i64 imm]] = some (.bool true)) :
    thumb_Reads.spec [.agg [.int .i64 8, .int .i64 d, .int .i64 n, .int .i64 m, .int .i64 imm]] = some (.rsl 1 (ints (compactI (sortI [n, m])))) := by
  simp -implicitDefEqProofs +contextual (disch := omega) [thumb_Reads.spec, thumb_Reads, hc]
  generalize hr : slices_Sort_int.spec _ _ = r
  obtain rfl := sort_of hr [n, m] rfl (by omega) (ty := T.ty_int) (by simp [ints])
  simp -implicitDefEqProofs +contextual (disch := omega) []
  generalize hr : slices_Compact_int.spec _ _ = r
  obtain ⟨H', z, rfl, g, hw, hn, ho⟩ := compact_of hr (sortI [n, m]) (by rw [sortI_length]; rfl) (by omega) (ty := T.ty_int) (by simp) (by (repeat' (first | assumption | with_reducible apply AHeap.WF.push | with_reducible apply AHeap.WF.set | with_reducible apply killAll_wf | exact AHeap.WF.empty)) <;> (simp <;> omega))
  have hf := ints_front (compactI (sortI [n, m])) z
  simp -implicitDefEqProofs +contextual (disch := omega) [g, hf]
theorem reads_9 (d n m imm : Int) (hc : thumb_can.spec [.agg [.int .i64 9, .int .i64 d, .int .i64 n, .int .i64 m, .int .i64 imm]] = some (.bool true)) :
    thumb_Reads.spec [.agg [.int .i64 9, .int .i64 d, .int .i64 n, .int .i64 m, .int .i64 imm]] = some (.rsl 1 (ints (compactI (sortI [n])))) := by
  simp -implicitDefEqProofs +contextual (disch := omega) [thumb_Reads.spec, thumb_Reads, hc]
  generalize hr : slices_Sort_int.spec _ _ = r
  obtain rfl := sort_of hr [n] rfl (by omega) (ty := T.ty_int) (by simp [ints])
  simp -implicitDefEqProofs +contextual (disch := omega) []
  generalize hr : slices_Compact_int.spec _ _ = r
  obtain ⟨H', z, rfl, g, hw, hn, ho⟩ := compact_of hr (sortI [n]) (by rw [sortI_length]; rfl) (by omega) (ty := T.ty_int) (by simp) (by (repeat' (first | assumption | with_reducible apply AHeap.WF.push | with_reducible apply AHeap.WF.set | with_reducible apply killAll_wf | exact AHeap.WF.empty)) <;> (simp <;> omega))
  have hf := ints_front (compactI (sortI [n])) z
  simp -implicitDefEqProofs +contextual (disch := omega) [g, hf]
theorem reads_10 (d n m imm : Int) (hc : thumb_can.spec [.agg [.int .i64 10, .int .i64 d, .int .i64 n, .int .i64 m, .int .i64 imm]] = some (.bool true)) :
    thumb_Reads.spec [.agg [.int .i64 10, .int .i64 d, .int .i64 n, .int .i64 m, .int .i64 imm]] = some (.rsl 1 (ints (compactI (sortI [n])))) := by
  simp -implicitDefEqProofs +contextual (disch := omega) [thumb_Reads.spec, thumb_Reads, hc]
  generalize hr : slices_Sort_int.spec _ _ = r
  obtain rfl := sort_of hr [n] rfl (by omega) (ty := T.ty_int) (by simp [ints])
  simp -implicitDefEqProofs +contextual (disch := omega) []
  generalize hr : slices_Compact_int.spec _ _ = r
  obtain ⟨H', z, rfl, g, hw, hn, ho⟩ := compact_of hr (sortI [n]) (by rw [sortI_length]; rfl) (by omega) (ty := T.ty_int) (by simp) (by (repeat' (first | assumption | with_reducible apply AHeap.WF.push | with_reducible apply AHeap.WF.set | with_reducible apply killAll_wf | exact AHeap.WF.empty)) <;> (simp <;> omega))
  have hf := ints_front (compactI (sortI [n])) z
  simp -implicitDefEqProofs +contextual (disch := omega) [g, hf]
theorem reads_11a (d n m imm : Int) (hi : imm = 9 ∨ imm = 15) (hc : thumb_can.spec [.agg [.int .i64 11, .int .i64 d, .int .i64 n, .int .i64 m, .int .i64 imm]] = some (.bool true)) :
    thumb_Reads.spec [.agg [.int .i64 11, .int .i64 d, .int .i64 n, .int .i64 m, .int .i64 imm]] = some (.rsl 1 (ints (compactI (sortI [m])))) := by
  simp -implicitDefEqProofs +contextual (disch := omega) [thumb_Reads.spec, thumb_Reads, hc, hi]
  generalize hr : slices_Sort_int.spec _ _ = r
  obtain rfl := sort_of hr [m] rfl (by omega) (ty := T.ty_int) (by simp [ints])
  simp -implicitDefEqProofs +contextual (disch := omega) []
  generalize hr : slices_Compact_int.spec _ _ = r
  obtain ⟨H', z, rfl, g, hw, hn, ho⟩ := compact_of hr (sortI [m]) (by rw [sortI_length]; rfl) (by omega) (ty := T.ty_int) (by simp) (by (repeat' (first | assumption | with_reducible apply AHeap.WF.push | with_reducible apply AHeap.WF.set | with_reducible apply killAll_wf | exact AHeap.WF.empty)) <;> (simp <;> omega))
  have hf := ints_front (compactI (sortI [m])) z
  simp -implicitDefEqProofs +contextual (disch := omega) [g, hf]
theorem reads_11b (d n m imm : Int) (hi : ¬ imm = 9 ∧ ¬ imm = 15) (hc : thumb_can.spec [.agg [.int .i64 11, .int .i64 d, .int .i64 n, .int .i64 m, .int .i64 imm]] = some (.bool true)) :
    thumb_Reads.spec [.agg [.int .i64 11, .int .i64 d, .int .i64 n, .int .i64 m, .int .i64 imm]] = some (.rsl 1 (ints (compactI (sortI [m, d])))) := by
  simp -implicitDefEqProofs +contextual (disch := omega) [thumb_Reads.spec, thumb_Reads, hc, hi.1, hi.2]
  generalize hr : slices_Sort_int.spec _ _ = r
  obtain rfl := sort_of hr [m, d] rfl (by omega) (ty := T.ty_int) (by simp [ints])
  simp -implicitDefEqProofs +contextual (disch := omega) []
  generalize hr : slices_Compact_int.spec _ _ = r
  obtain ⟨H', z, rfl, g, hw, hn, ho⟩ := compact_of hr (sortI [m, d]) (by rw [sortI_length]; rfl) (by omega) (ty := T.ty_int) (by simp) (by (repeat' (first | assumption | with_reducible apply AHeap.WF.push | with_reducible apply AHeap.WF.set | with_reducible apply killAll_wf | exact AHeap.WF.empty)) <;> (simp <;> omega))
  have hf := ints_front (compactI (sortI [m, d])) z
  simp -implicitDefEqProofs +contextual (disch := omega) [g, hf]
theorem reads_12 (d n m imm : Int) (hc : thumb_can.spec [.agg [.int .i64 12, .int .i64 d, .int .i64 n, .int .i64 m, .int .i64 imm]] = some (.bool true)) :
    thumb_Reads.spec [.agg [.int .i64 12, .int .i64 d, .int .i64 n, .int .i64 m, .int .i64 imm]] = some (.rsl 1 (ints (compactI (sortI [n])))) := by
  simp -implicitDefEqProofs +contextual (disch := omega) [thumb_Reads.spec, thumb_Reads, hc]
  generalize hr : slices_Sort_int.spec _ _ = r
  obtain rfl := sort_of hr [n] rfl (by omega) (ty := T.ty_int) (by simp [ints])
  simp -implicitDefEqProofs +contextual (disch := omega) []
  generalize hr : slices_Compact_int.spec _ _ = r
  obtain ⟨H', z, rfl, g, hw, hn, ho⟩ := compact_of hr (sortI [n]) (by rw [sortI_length]; rfl) (by omega) (ty := T.ty_int) (by simp) (by (repeat' (first | assumption | with_reducible apply AHeap.WF.push | with_reducible apply AHeap.WF.set | with_reducible apply killAll_wf | exact AHeap.WF.empty)) <;> (simp <;> omega))
  have hf := ints_front (compactI (sortI [n])) z
  simp -implicitDefEqProofs +contextual (disch := omega) [g, hf]
theorem reads_13 (d n m imm : Int) (hc : thumb_can.spec [.agg [.int .i64 13, .int .i64 d, .int .i64 n, .int .i64 m, .int .i64 imm]] = some (.bool true)) :
    thumb_Reads.spec [.agg [.int .i64 13, .int .i64 d, .int .i64 n, .int .i64 m, .int .i64 imm]] = some (.rsl 1 (ints (compactI (sortI [n, d])))) := by
  simp -implicitDefEqProofs +contextual (disch := omega) [thumb_Reads.spec, thumb_Reads, hc]
  generalize hr : slices_Sort_int.spec _ _ = r
  obtain rfl := sort_of hr [n, d] rfl (by omega) (ty := T.ty_int) (by simp [ints])
  simp -implicitDefEqProofs +contextual (disch := omega) []
  generalize hr : slices_Compact_int.spec _ _ = r
  obtain ⟨H', z, rfl, g, hw, hn, ho⟩ := compact_of hr (sortI [n, d]) (by rw [sortI_length]; rfl) (by omega) (ty := T.ty_int) (by simp) (by (repeat' (first | assumption | with_reducible apply AHeap.WF.push | with_reducible apply AHeap.WF.set | with_reducible apply killAll_wf | exact AHeap.WF.empty)) <;> (simp <;> omega))
  have hf := ints_front (compactI (sortI [n, d])) z
  simp -implicitDefEqProofs +contextual (disch := omega) [g, hf]
theorem reads_14 (d n m imm : Int) (hc : thumb_can.spec [.agg [.int .i64 14, .int .i64 d, .int .i64 n, .int .i64 m, .int .i64 imm]] = some (.bool true)) :
    thumb_Reads.spec [.agg [.int .i64 14, .int .i64 d, .int .i64 n, .int .i64 m, .int .i64 imm]] = some (.rsl 1 (ints (compactI (sortI [n, m])))) := by
  simp -implicitDefEqProofs +contextual (disch := omega) [thumb_Reads.spec, thumb_Reads, hc]
  generalize hr : slices_Sort_int.spec _ _ = r
  obtain rfl := sort_of hr [n, m] rfl (by omega) (ty := T.ty_int) (by simp [ints])
  simp -implicitDefEqProofs +contextual (disch := omega) []
  generalize hr : slices_Compact_int.spec _ _ = r
  obtain ⟨H', z, rfl, g, hw, hn, ho⟩ := compact_of hr (sortI [n, m]) (by rw [sortI_length]; rfl) (by omega) (ty := T.ty_int) (by simp) (by (repeat' (first | assumption | with_reducible apply AHeap.WF.push | with_reducible apply AHeap.WF.set | with_reducible apply killAll_wf | exact AHeap.WF.empty)) <;> (simp <;> omega))
  have hf := ints_front (compactI (sortI [n, m])) z
  simp -implicitDefEqProofs +contextual (disch := omega) [g, hf]
theorem reads_15 (d n m imm : Int) (hc : thumb_can.spec [.agg [.int .i64 15, .int .i64 d, .int .i64 n, .int .i64 m, .int .i64 imm]] = some (.bool true)) :
    thumb_Reads.spec [.agg [.int .i64 15, .int .i64 d, .int .i64 n, .int .i64 m, .int .i64 imm]] = some (.rsl 1 (ints (compactI (sortI [n, m, d])))) := by
  simp -implicitDefEqProofs +contextual (disch := omega) [thumb_Reads.spec, thumb_Reads, hc]
  generalize hr : slices_Sort_int.spec _ _ = r
  obtain rfl := sort_of hr [n, m, d] rfl (by omega) (ty := T.ty_int) (by simp [ints])
  simp -implicitDefEqProofs +contextual (disch := omega) []
  generalize hr : slices_Compact_int.spec _ _ = r
  obtain ⟨H', z, rfl, g, hw, hn, ho⟩ := compact_of hr (sortI [n, m, d]) (by rw [sortI_length]; rfl) (by omega) (ty := T.ty_int) (by simp) (by (repeat' (first | assumption | with_reducible apply AHeap.WF.push | with_reducible apply AHeap.WF.set | with_reducible apply killAll_wf | exact AHeap.WF.empty)) <;> (simp <;> omega))
  have hf := ints_front (compactI (sortI [n, m, d])) z
  simp -implicitDefEqProofs +contextual (disch := omega) [g, hf]
theorem reads_16 (d n m imm : Int) (hc : thumb_can.spec [.agg [.int .i64 16, .int .i64 d, .int .i64 n, .int .i64 m, .int .i64 imm]] = some (.bool true)) :
    thumb_Reads.spec [.agg [.int .i64 16, .int .i64 d, .int .i64 n, .int .i64 m, .int .i64 imm]] = some (.rsl 1 (ints (compactI (sortI [])))) := by
  have e : compactI (sortI []) = [] := by simp [sortI, compactI]
  rw [e]
  simp -implicitDefEqProofs +contextual (disch := omega) [thumb_Reads.spec, thumb_Reads, hc, sort_nils, slices_Compact_int.spec, slices_Compact_int, ints]
theorem reads_17 (d n m imm : Int) (hc : thumb_can.spec [.agg [.int .i64 17, .int .i64 d, .int .i64 n, .int .i64 m, .int .i64 imm]] = some (.bool true)) :
    thumb_Reads.spec [.agg [.int .i64 17, .int .i64 d, .int .i64 n, .int .i64 m, .int .i64 imm]] = some (.rsl 1 (ints (compactI (sortI [])))) := by
  have e : compactI (sortI []) = [] := by simp [sortI, compactI]
  rw [e]
  simp -implicitDefEqProofs +contextual (disch := omega) [thumb_Reads.spec, thumb_Reads, hc, sort_nils, slices_Compact_int.spec, slices_Compact_int, ints]
theorem reads_18 (d n m imm : Int) (hc : thumb_can.spec [.agg [.int .i64 18, .int .i64 d, .int .i64 n, .int .i64 m, .int .i64 imm]] = some (.bool true)) :
    thumb_Reads.spec [.agg [.int .i64 18, .int .i64 d, .int .i64 n, .int .i64 m, .int .i64 imm]] = some (.rsl 1 (ints (compactI (sortI [])))) := by
  have e : compactI (sortI []) = [] := by simp [sortI, compactI]
  rw [e]
  simp -implicitDefEqProofs +contextual (disch := omega) [thumb_Reads.spec, thumb_Reads, hc, sort_nils, slices_Compact_int.spec, slices_Compact_int, ints]
theorem reads_19 (d n m imm : Int) (hc : thumb_can.spec [.agg [.int .i64 19, .int .i64 d, .int .i64 n, .int .i64 m, .int .i64 imm]] = some (.bool true)) :
    thumb_Reads.spec [.agg [.int .i64 19, .int .i64 d, .int .i64 n, .int .i64 m, .int .i64 imm]] = some (.rsl 1 (ints (compactI (sortI [])))) := by
  have e : compactI (sortI []) = [] := by simp [sortI, compactI]
  rw [e]
  simp -implicitDefEqProofs +contextual (disch := omega) [thumb_Reads.spec, thumb_Reads, hc, sort_nils, slices_Compact_int.spec, slices_Compact_int, ints]
theorem reads_20 (d n m imm : Int) (hc : thumb_can.spec [.agg [.int .i64 20, .int .i64 d, .int .i64 n, .int .i64 m, .int .i64 imm]] = some (.bool true)) :
    thumb_Reads.spec [.agg [.int .i64 20, .int .i64 d, .int .i64 n, .int .i64 m, .int .i64 imm]] = some (.rsl 1 (ints (compactI (sortI [])))) := by
  have e : compactI (sortI []) = [] := by simp [sortI, compactI]
  rw [e]
  simp -implicitDefEqProofs +contextual (disch := omega) [thumb_Reads.spec, thumb_Reads, hc, sort_nils, slices_Compact_int.spec, slices_Compact_int, ints]
theorem Reads_eq (i : InsM) : thumb_Reads.spec [InsAV i] = some (.rsl 1 (ints (readsM i))) := by
  have hc := can_eq i
  unfold readsM
  by_cases h : i.can = true
  · have h1 := ((can_iff i).1 h).1
    rw [if_pos h]
    rw [h] at hc
    clear h
    obtain ⟨op, d, n, m, imm⟩ := i
    simp only [InsAV] at hc ⊢
    dsimp only at h1 ⊢
    obtain ⟨k, rfl⟩ : ∃ k : Nat, op = k := ⟨op.toNat, by omega⟩
    have hk : k = 0 ∨ k = 1 ∨ k = 2 ∨ k = 3 ∨ k = 4 ∨ k = 5 ∨ k = 6 ∨ k = 7 ∨ k = 8 ∨ k = 9 ∨ k = 10 ∨ k = 11 ∨ k = 12 ∨ k = 13 ∨ k = 14 ∨ k = 15 ∨ k = 16 ∨ k = 17 ∨ k = 18 ∨ k = 19 ∨ k = 20 := by omega
    rcases hk with rfl | rfl | rfl | rfl | rfl | rfl | rfl | rfl | rfl | rfl | rfl | rfl | rfl | rfl | rfl | rfl | rfl | rfl | rfl | rfl | rfl
    · have := reads_0 d n m imm hc
      simpa [readL] using this
    · have := reads_1 d n m imm hc
      simpa [readL] using this
    · have := reads_2 d n m imm hc
      simpa [readL] using this
    · have := reads_3 d n m imm hc
      simpa [readL] using this
    · have := reads_4 d n m imm hc
      simpa [readL] using this
    · have := reads_5 d n m imm hc
      simpa [readL] using this
    · have := reads_6 d n m imm hc
      simpa [readL] using this
    · have := reads_7 d n m imm hc
      simpa [readL] using this
    · have := reads_8 d n m imm hc
      simpa [readL] using this
    · have := reads_9 d n m imm hc
      simpa [readL] using this
    · have := reads_10 d n m imm hc
      simpa [readL] using this
    · by_cases hi : imm = 9 ∨ imm = 15
      · have := reads_11a d n m imm hi hc
        simpa [readL, hi] using this
      · have := reads_11b d n m imm ⟨fun e => hi (.inl e), fun e => hi (.inr e)⟩ hc
        simpa [readL, hi] using this
    · have := reads_12 d n m imm hc
      simpa [readL] using this
    · have := reads_13 d n m imm hc
      simpa [readL] using this
    · have := reads_14 d n m imm hc
      simpa [readL] using this
    · have := reads_15 d n m imm hc
      simpa [readL] using this
    · have := reads_16 d n m imm hc
      simpa [readL] using this
    · have := reads_17 d n m imm hc
      simpa [readL] using this
    · have := reads_18 d n m imm hc
      simpa [readL] using this
    · have := reads_19 d n m imm hc
      simpa [readL] using this
    · have := reads_20 d n m imm hc
      simpa [readL] using this
  · rw [if_neg h]
    have hf : i.can = false := by simpa using h
    rw [hf] at hc
    simp only [InsAV] at hc ⊢
    simp -implicitDefEqProofs +contextual (disch := omega) [thumb_Reads.spec, thumb_Reads, hc, ints]
end Go.Abs
end
section
set_option linter.unusedSimpArgs false
set_option linter.unusedVariables false
namespace Go.Abs
open Th
theorem mem_upF (f : Nat → Bool) (x : Int) : ∀ d k, x ∈ upF f k d ↔ ∃ r : Nat, k ≤ r ∧ r < k + d ∧ f r = true ∧ x = r
  | 0, k => by simp [upF]; omega
  | d + 1, k => by
    rw [upF, List.mem_append, mem_upF f x d (k + 1)]
    constructor
    · rintro (h | ⟨r, h1, h2, h3, h4⟩)
      · split at h
        · rename_i hf
          simp only [List.mem_singleton] at h
          exact ⟨k, Nat.le_refl _, by omega, hf, h⟩
        · simp at h
      · exact ⟨r, by omega, by omega, h3, h4⟩
    · rintro ⟨r, h1, h2, h3, h4⟩
      by_cases e : r = k
      · subst e; left; rw [if_pos h3]; simp [h4]
      · right; exact ⟨r, by omega, by omega, h3, h4⟩
theorem upF_rises (f : Nat → Bool) : ∀ d k, (upF f k d).Pairwise (· < ·)
  | 0, _ => List.Pairwise.nil
  | d + 1, k => by
    rw [upF, List.pairwise_append]
    refine ⟨by split <;> simp, upF_rises f d (k + 1), fun a ha b hb => ?_⟩
    obtain ⟨r, h1, h2, h3, h4⟩ := (mem_upF f b d (k + 1)).1 hb
    split at ha
    · simp only [List.mem_singleton] at ha; omega
    · simp at ha
theorem reg_bounds (i : InsM) (h : i.can = true) : (i.op ≠ 18 → 0 ≤ i.d ∧ i.d ≤ 7) ∧ (0 ≤ i.n ∧ i.n ≤ 7) ∧ 0 ≤ i.m ∧ i.m ≤ 7 := by
  obtain ⟨h0, _, _, h1, h2, h3, h4, h5, h6⟩ := (can_iff i).1 h
  refine ⟨fun hne => ⟨h1, ?_⟩, ⟨h3, ?_⟩, h5, ?_⟩
  · unfold maxD at h2
    split at h2
    · omega
    · split at h2 <;> omega
  · unfold maxN at h4; split at h4 <;> omega
  · unfold maxM at h6; split at h6 <;> omega
theorem reads_same (i : InsM) : readsM i = readsL i := by
  unfold readsM readsL
  by_cases h : i.can = true
  · rw [if_pos h]
    obtain ⟨hd, hn, hm⟩ := reg_bounds i h
    have h1 := ((can_iff i).1 h).1
    refine rises_ext _ _ (compact_sort_rises _) (upF_rises _ _ _) fun x => ?_
    rw [mem_compact_sort, mem_upF]
    obtain ⟨op, d, n, m, imm⟩ := i
    dsimp only at h1 hd hn hm
    obtain ⟨k, rfl⟩ : ∃ k : Nat, op = k := ⟨op.toNat, by omega⟩
    have hk : k = 0 ∨ k = 1 ∨ k = 2 ∨ k = 3 ∨ k = 4 ∨ k = 5 ∨ k = 6 ∨ k = 7 ∨ k = 8 ∨ k = 9 ∨ k = 10 ∨ k = 11 ∨ k = 12 ∨ k = 13 ∨ k = 14 ∨ k = 15 ∨ k = 16 ∨ k = 17 ∨ k = 18 ∨ k = 19 ∨ k = 20 := by omega
    have key : (∃ r : Nat, 0 ≤ r ∧ r < 0 + 8 ∧ readB ⟨(k : Nat), d, n, m, imm⟩ r = true ∧ x = r) ↔ (rdD ⟨(k : Nat), d, n, m, imm⟩ = true ∧ x = d) ∨ (rdN ⟨(k : Nat), d, n, m, imm⟩ = true ∧ x = n) ∨ (rdM ⟨(k : Nat), d, n, m, imm⟩ = true ∧ x = m) := by
      have hdd : rdD ⟨(k : Nat), d, n, m, imm⟩ = true → 0 ≤ d ∧ d ≤ 7 := fun e => hd (fun e2 => by simp only [rdD, Bool.or_eq_true, decide_eq_true_eq] at e; omega)
      constructor
      · rintro ⟨r, _, hr, hb, rfl⟩
        simp only [readB, h, Bool.true_and, Bool.or_eq_true, Bool.and_eq_true, decide_eq_true_eq] at hb
        rcases hb with (⟨a, b⟩ | ⟨a, b⟩) | ⟨a, b⟩
        · exact .inl ⟨a, b.symm⟩
        · exact .inr (.inl ⟨a, b.symm⟩)
        · exact .inr (.inr ⟨a, b.symm⟩)
      · intro hq
        have hx : 0 ≤ x ∧ x ≤ 7 := by
          rcases hq with ⟨a, rfl⟩ | ⟨a, rfl⟩ | ⟨a, rfl⟩
          · exact hdd a
          · exact hn
          · exact hm
        refine ⟨x.toNat, Nat.zero_le _, by omega, ?_, by omega⟩
        have e : ((x.toNat : Nat) : Int) = x := by omega
        simp only [readB, h, Bool.true_and, Bool.or_eq_true, Bool.and_eq_true, decide_eq_true_eq, e]
        rcases hq with ⟨a, b⟩ | ⟨a, b⟩ | ⟨a, b⟩
        · exact .inl (.inl ⟨a, b.symm⟩)
        · exact .inl (.inr ⟨a, b.symm⟩)
        · exact .inr ⟨a, b.symm⟩
    rw [key]
    clear key h hd hn hm h1
    rcases hk with rfl | rfl | rfl | rfl | rfl | rfl | rfl | rfl | rfl | rfl | rfl | rfl | rfl | rfl | rfl | rfl | rfl | rfl | rfl | rfl | rfl
    case inr.inr.inr.inr.inr.inr.inr.inr.inr.inr.inr.inl =>
      by_cases hi : imm = 9 ∨ imm = 15
      · have : ¬ (imm ≠ 9 ∧ imm ≠ 15) := by omega
        simp [readL, rdD, rdN, rdM, hi]
        omega
      · have : imm ≠ 9 ∧ imm ≠ 15 := by omega
        simp [readL, rdD, rdN, rdM, hi, this]
        omega
    all_goals simp [readL, rdD, rdN, rdM]
    all_goals omega
  · rw [if_neg h]
    have hf : i.can = false := by simpa using h
    rw [upF_no _ (fun r => by simp [readB, hf])]
theorem readL_len (i : InsM) : (readL i).length ≤ 3 := by
  unfold readL
  repeat' split
  all_goals simp
theorem readsM_bounds (i : InsM) : (∀ x, x ∈ readsM i → 0 ≤ x ∧ x ≤ 7) ∧ (readsM i).length ≤ 3 ∧ (readsM i).Pairwise (· < ·) := by
  refine ⟨fun x hx => ?_, ?_, ?_⟩
  · rw [reads_same] at hx
    obtain ⟨r, _, h2, _, h4⟩ := (mem_upF _ _ _ _).1 hx
    omega
  · unfold readsM
    split
    · have h1 := compactI_length (sortI (readL i))
      rw [sortI_length] at h1
      have := readL_len i
      omega
    · simp
  · rw [reads_same]; exact upF_rises _ _ _
end Go.Abs
end
section
set_option linter.unusedSimpArgs false
set_option linter.unusedVariables false
namespace Go.Abs
open Th
theorem lives02r : law02_lives.spec [] = some (.bool true) := by
  have h1 := Put_eq ⟨0, 1, 0, 0, 5⟩
  have h2 := Can_eq ⟨19, 0, 0, 0, 0⟩
  rw [show putM ⟨0, 1, 0, 0, 5⟩ = (8453#16, 0) from by decide] at h1
  rw [show (InsM.mk 19 0 0 0 0).can = true from by decide] at h2
  simp only [InsAV] at h1 h2
  simp -implicitDefEqProofs +contextual (disch := omega) [law02_lives.spec, law02_lives, h1, h2]
theorem thumbRegs_law (i : InsM) : law02_ThumbRegs.spec [InsAV i] = some (.bool true) := by
  have w1 := Writes_eq i
  have w2 := rWrites_eq i
  have r1 := Reads_eq i
  have r2 := rReads_eq i
  rw [← reads_same] at r2
  have hl := (readsM_bounds i).2.1
  have s := sameI_eq (readsM i) (readsM i) (by omega)
  rw [decide_eq_true rfl] at s
  generalize readsM i = l at *
  generalize (writesM i).1 = x at *
  generalize (writesM i).2 = b at *
  simp only [InsAV] at *
  cases b <;> simp -implicitDefEqProofs +contextual (disch := omega) [law02_ThumbRegs.spec, law02_ThumbRegs, w1, w2, r1, r2, s, lives02r]
noncomputable abbrev riL := law02_ThumbRises.l0 thumb_Take.spec thumb_Reads.spec thumb_Writes.spec law02_lives.spec
theorem rises_loop (l : List Int) (hb : ∀ x, x ∈ l → 0 ≤ x ∧ x ≤ 7) (hl : l.length ≤ 3) (hr : l.Pairwise (· < ·)) (v3 v4 v6 v7 : AV) (X : AHeap) {r}
    (h : aloop riL (AFr.al [(3, v3), (4, v4), (5, .rsl 1 (ints l)), (6, v6), (7, v7), (8, .int .i64 0)]) X = r) :
    ∃ e fr' X', r = some (e, fr', X') ∧ (e = .exit 0 ∧ X' = X ∧ ∃ y, fr' = AFr.al ([(3, v3), (4, v4), (5, .rsl 1 (ints l)), (6, v6), (7, v7)] ++ y)) := by
  refine run_of h (aloop_each l.length (fun k fr H => H = X ∧ ∃ y, fr = AFr.al ([(3, v3), (4, v4), (5, .rsl 1 (ints l)), (6, v6), (7, v7), (8, .int .i64 k)] ++ y)) _ (fun k hk fr H hR => ?_) (fun fr H hR => ?_) ⟨rfl, [], rfl⟩)
  · obtain ⟨rfl, y, rfl⟩ := hR
    have hk' : (k : Int) < l.length := by omega
    have hk1 : ((k + 1 : Nat) : Int) = (k : Int) + 1 := by omega
    have hx := hb (ati l k) (by rw [ati_eq l k hk]; exact List.getElem_mem hk)
    have h1 : ¬ ati l k < 0 := by omega
    have h2 : ¬ 7 < ati l k := by omega
    by_cases h0 : k = 0
    · subst h0
      refine ⟨_, _, _, by simp -implicitDefEqProofs +contextual (disch := omega) [law02_ThumbRises.l0, hk, hk', h1, h2]; first | rfl | exact ⟨rfl, rfl⟩ | exact ⟨rfl, rfl, rfl⟩, .inl ⟨rfl, rfl, _, rfl⟩⟩
    · have h3 : (0 : Int) < k := by omega
      have h4 : ((k : Int) - 1).toNat = k - 1 := by omega
      have h5 : k - 1 < l.length := by omega
      have h6 : ati l (k - 1) < ati l k := by
        rw [ati_eq l k hk, ati_eq l (k - 1) h5]
        exact List.pairwise_iff_getElem.1 hr (k - 1) k h5 hk (by omega)
      have h7 : ¬ ati l k ≤ ati l (k - 1) := by omega
      refine ⟨_, _, _, by simp -implicitDefEqProofs +contextual (disch := omega) [law02_ThumbRises.l0, hk, hk', h1, h2, h3, h4, h5, h7]; first | rfl | exact ⟨rfl, rfl⟩ | exact ⟨rfl, rfl, rfl⟩, .inl ⟨rfl, rfl, _, rfl⟩⟩
  · obtain ⟨rfl, y, rfl⟩ := hR
    refine ⟨_, _, _, by simp -implicitDefEqProofs +contextual (disch := omega) [law02_ThumbRises.l0]; first | rfl | exact ⟨rfl, rfl⟩ | exact ⟨rfl, rfl, rfl⟩, by simp, rfl, rfl, _, rfl⟩
theorem writes_bounds (i : InsM) : (0 ≤ (writesM i).1 ∧ (writesM i).1 ≤ 7) ∧ ((writesM i).2 = true ∨ (writesM i).1 = 0) := by
  unfold writesM
  split
  · rename_i h
    obtain ⟨hd, _⟩ := reg_bounds i h
    split
    · exact ⟨⟨by decide, by decide⟩, .inr rfl⟩
    · rename_i hq
      exact ⟨hd (by omega), .inl rfl⟩
  · exact ⟨⟨by decide, by decide⟩, .inr rfl⟩
theorem thumbRises_law (h : BitVec 16) : law02_ThumbRises.spec [W16 h] = some (.bool true) := by
  have t := Take_eq h
  have hor := takeN_or h.toNat
  have hz : (takeN h.toNat).2 = 0 ∨ (takeN h.toNat).1 = InsM.zero := by
    rcases hor with ⟨i, _, _, e⟩ | e
    · left; rw [e]
    · right; rw [e]
  have w := Writes_eq (takeN h.toNat).1
  have r1 := Reads_eq (takeN h.toNat).1
  obtain ⟨b1, b2, b3⟩ := readsM_bounds (takeN h.toNat).1
  obtain ⟨c1, c2⟩ := writes_bounds (takeN h.toNat).1
  have hL := fun v3 v4 v6 v7 X r => @rises_loop (readsM (takeN h.toNat).1) b1 b2 b3 v3 v4 v6 v7 X r
  generalize hi : (takeN h.toNat).1 = i at *
  generalize (takeN h.toNat).2 = e at *
  generalize readsM i = l at *
  generalize (writesM i).1 = x at *
  generalize (writesM i).2 = b at *
  simp only [InsAV] at *
  have hl3 : (l.length : Int) ≤ 3 := by omega
  generalize hr : law02_ThumbRises.spec _ = rr
  simp -implicitDefEqProofs +contextual (disch := omega) [law02_ThumbRises.spec, law02_ThumbRises, t, r1, w] at hr
  generalize hr3 : aloop _ _ _ = r3 at hr
  obtain ⟨e3, fr3, X3, rfl, rfl, rfl, y3, rfl⟩ := hL _ _ _ _ _ _ hr3
  have hx0 : 0 ≤ x := c1.1
  have hx7 : x ≤ 7 := c1.2
  by_cases he : e = 0
  · subst he
    rcases c2 with rfl | rfl
    · simp -implicitDefEqProofs +contextual (disch := omega) [hl3, lives02r] at hr
      exact hr.symm
    · cases b <;> (simp -implicitDefEqProofs +contextual (disch := omega) [hl3, lives02r] at hr; exact hr.symm)
  · have hiz := hz.resolve_left he
    subst hiz
    rcases c2 with rfl | rfl
    · simp -implicitDefEqProofs +contextual (disch := omega) [hl3, lives02r, he, InsM.zero] at hr
      exact hr.symm
    · cases b <;> (simp -implicitDefEqProofs +contextual (disch := omega) [hl3, lives02r, he, InsM.zero] at hr; exact hr.symm)
theorem sh_insr {cs : List AV} (h : ShsOk [.int .i64, .int .i64, .int .i64, .int .i64, .int .i64] cs) : ∃ i : InsM, AV.agg cs = InsAV i := by
  obtain ⟨a, _, rfl, q1, h⟩ := shs_cons h
  obtain ⟨b, _, rfl, q2, h⟩ := shs_cons h
  obtain ⟨c, _, rfl, q3, h⟩ := shs_cons h
  obtain ⟨d, _, rfl, q4, h⟩ := shs_cons h
  obtain ⟨e, rfl, q5⟩ := shs_one h
  obtain ⟨x1, rfl, y1⟩ := sh_i64 q1
  obtain ⟨x2, rfl, y2⟩ := sh_i64 q2
  obtain ⟨x3, rfl, y3⟩ := sh_i64 q3
  obtain ⟨x4, rfl, y4⟩ := sh_i64 q4
  obtain ⟨x5, rfl, y5⟩ := sh_i64 q5
  exact ⟨⟨x1, x2, x3, x4, x5⟩, rfl⟩
theorem law02_ThumbRegs_law (args : List AV) (h : ArgsSh [(true, [.int .i64, .int .i64, .int .i64, .int .i64, .int .i64])] args) : law02_ThumbRegs.spec args = some (.bool true) := by
  obtain ⟨a, _, rfl, h1, h⟩ := args_agg h
  obtain rfl := args_nil h
  obtain ⟨i, e1⟩ := sh_insr h1
  rw [e1]; exact thumbRegs_law i
theorem law02_ThumbRises_law (args : List AV) (h : ArgsSh [(false, [.int .u16])] args) : law02_ThumbRises.spec args = some (.bool true) := by
  obtain ⟨a, _, rfl, h1, h⟩ := args_one h
  obtain rfl := args_nil h
  obtain ⟨x, rfl⟩ := sh_u16 h1.1
  exact thumbRises_law x
end Go.Abs
end
