/-
  Two of the program's memories side by side.
-/
import Derived.Test.YtncablokgkejjaaC7a
set_option linter.unusedSimpArgs false
set_option linter.unusedVariables false
namespace Go.Abs
open Th
structure Id4 where
  b : Nat
  wb : Nat
  c : Nat
  wc : Nat
def AHeap.pp (B : AHeap) (J : Id4) (m n : MemM) : AHeap := (B.mem J.b J.wb m).mem J.c J.wc n
structure PpOk (B : AHeap) (J : Id4) : Prop where
  wf : B.WF
  hb : J.b < B.next
  hwb : J.wb < B.next
  hc : J.c < B.next
  hwc : J.wc < B.next
  ne : J.b ≠ J.wb
  ne' : J.c ≠ J.wc
  b1 : J.b ≠ J.c
  b2 : J.b ≠ J.wc
  w1 : J.wb ≠ J.c
  w2 : J.wb ≠ J.wc
theorem PpOk.more {B B' : AHeap} {J : Id4} (h : PpOk B J) (hw : B'.WF) (hn : B.next ≤ B'.next) : PpOk B' J :=
  { h with wf := hw, hb := Nat.lt_of_lt_of_le h.hb hn, hwb := Nat.lt_of_lt_of_le h.hwb hn, hc := Nat.lt_of_lt_of_le h.hc hn, hwc := Nat.lt_of_lt_of_le h.hwc hn }
section
variable {B : AHeap} {J : Id4} {m n : MemM}
theorem pp_next : (B.pp J m n).next = B.next := by simp [AHeap.pp]
theorem pp_get (d : Nat) : (B.pp J m n).get d = if d = J.c then some (memBlk J.wc n) else if d = J.wc then some (wrdBlk n.words) else if d = J.b then some (memBlk J.wb m) else if d = J.wb then some (wrdBlk m.words) else B.get d := by
  unfold AHeap.pp; rw [mem_get, mem_get]
theorem pp_of {X : AHeap} (hn : X.next = B.next) (h : ∀ c, X.get c = (B.pp J m n).get c) : X = B.pp J m n := AHeap.eq_of (by rw [hn, pp_next]) (funext h)
theorem pp_comm (h : PpOk B J) : B.pp J m n = (B.mem J.c J.wc n).mem J.b J.wb m := by
  refine (pp_of (by simp) fun c => ?_).symm
  rw [pp_get, mem_get, mem_get]
  by_cases h1 : c = J.b
  · subst h1; rw [if_pos rfl, if_neg h.b1, if_neg h.b2, if_pos rfl]
  · by_cases h2 : c = J.wb
    · subst h2; rw [if_neg h1, if_pos rfl, if_neg h.w1, if_neg h.w2, if_neg h1, if_pos rfl]
    · rw [if_neg h1, if_neg h2]; simp [h1, h2]
theorem ppPush (x : Blk) (h1 : J.b < B.next) (h2 : J.wb < B.next) (h3 : J.c < B.next) (h4 : J.wc < B.next) : (B.pp J m n).push x = (B.push x).pp J m n := by
  refine pp_of (by simp [pp_next]) fun c => ?_
  rw [AHeap.get_push, pp_next, pp_get, pp_get, AHeap.get_push]
  by_cases e : c = B.next
  · subst e; rw [if_pos rfl, if_neg (by omega), if_neg (by omega), if_neg (by omega), if_neg (by omega), if_pos rfl]
  · rw [if_neg e, if_neg e]
theorem ppSet (c : Nat) (x : Option Blk) (h1 : c ≠ J.b) (h2 : c ≠ J.wb) (h3 : c ≠ J.c) (h4 : c ≠ J.wc) : (B.pp J m n).set c x = (B.set c x).pp J m n := by
  refine pp_of (by simp [pp_next]) fun d => ?_
  rw [AHeap.get_set, pp_get, pp_get, AHeap.get_set]
  by_cases e : d = c
  · subst e; rw [if_pos rfl, if_neg h3, if_neg h4, if_neg h1, if_neg h2, if_pos rfl]
  · rw [if_neg e, if_neg e]
theorem ppGet (c : Nat) (h1 : c ≠ J.b) (h2 : c ≠ J.wb) (h3 : c ≠ J.c) (h4 : c ≠ J.wc) : (B.pp J m n).get c = B.get c := by
  rw [pp_get, if_neg h3, if_neg h4, if_neg h1, if_neg h2]
theorem pp_wf1 (h : PpOk B J) : (B.mem J.b J.wb m).WF := mem_wf _ _ _ _ h.wf h.hb h.hwb
theorem pp_wf2 (h : PpOk B J) : (B.mem J.c J.wc n).WF := mem_wf _ _ _ _ h.wf h.hc h.hwc
theorem pStep1 (h : PpOk B J) (hm : m.Ok) (s : StM) : core_Step.spec [.agg s.cells, .ptr J.b 5 0 0] (B.pp J m n) = some (DidAV (stepM s m), B.pp J (stepM s m).m n) := by
  rw [pp_comm h, pp_comm h]; exact Step_eq _ _ _ _ (pp_wf2 h) (by simpa using h.hb) (by simpa using h.hwb) h.ne hm s
theorem pStep2 (h : PpOk B J) (hn : n.Ok) (s : StM) : core_Step.spec [.agg s.cells, .ptr J.c 5 0 0] (B.pp J m n) = some (DidAV (stepM s n), B.pp J m (stepM s n).m) :=
  Step_eq _ _ _ _ (pp_wf1 h) (by simpa using h.hc) (by simpa using h.hwc) h.ne' hn s
theorem pWords1 (h : PpOk B J) (hm : m.Ok) : mem_Mem_Words.spec [.ptr J.b 5 0 0] (B.pp J m n) = some (.rsl 1 (w32s m.words), B.pp J m n) := by
  rw [pp_comm h]; exact Words_eq _ _ _ _ (pp_wf2 h) (by simpa using h.hb) (by simpa using h.hwb) h.ne hm.words
theorem pWords2 (h : PpOk B J) (hn : n.Ok) : mem_Mem_Words.spec [.ptr J.c 5 0 0] (B.pp J m n) = some (.rsl 1 (w32s n.words), B.pp J m n) :=
  Words_eq _ _ _ _ (pp_wf1 h) (by simpa using h.hc) (by simpa using h.hwc) h.ne' hn.words
end
end Go.Abs
