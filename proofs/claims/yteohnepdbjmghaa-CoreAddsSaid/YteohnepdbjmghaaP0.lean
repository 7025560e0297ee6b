/-
  What the proofs share.
-/
import Derived.Test.YteohnepdbjmghaaT
import Derived.Test.YteohnepdbjmghaaProg
import Derived.KernelRfl
namespace Go.Abs
theorem Mixed : Go.Proofs.Try.prog.follows .mixedOrders = true := by kernel_rfl
noncomputable abbrev tp := Go.Proofs.Try.prog
noncomputable def co (fn : Func) : Code := match fn.body with | some c => c | none => .skip
section
variable {C : Tab} {K : Nat → List Nat} {f : FuncId} {fn : Func} (hC : Tab.Sound tp C) (hf : tp.funcs[f]? = some fn) (hb : fn.body = some (co fn)) (hok : codeOk fn.ntmps (co fn) = true) (hcl : Callable tp f)
  {B : AFr → AHeap → ARes} (hB : ∀ fr H, acode tp C (draws tp C) K (co fn) fr H = B fr H) (n : Nat) (hn : n ≤ fn.ntmps) {g : AFr → AHeap → Option (List AV)} (hg : ∀ fr H, aresults tp fr H fn.results.toList = g fr H)
include hC hf hb hok hcl hB hn hg
omit hf hb hok hcl hC in
theorem runB {args : List AV} (hl : args.length = n) (H : AHeap) : arun tp C (draws tp C) K fn (co fn) args H = afinR g (B (args0 args) H) := by
  unfold arun
  rw [if_pos (by omega)]
  unfold afin
  rw [hB, show (fun fr H => aresults tp fr H fn.results.toList) = g from funext fun fr => funext fun H => hg fr H]
theorem sayP {ts : Option (List (List (Option Nat)))} (hts : tysOf tp fn.resultTypes.toList = ts) {spec : List AV → Option AV} (hs : ∀ args r, spec args = some r → args.length = n ∧ closeUpR ts (afinR g (B (args0 args) AHeap.empty)) = some r) : Sound tp f (.pure false spec) :=
  (sound_pure hC Mixed (draws _ _) K hf hb hok hcl).less fun args r h => by
    obtain ⟨h1, h2⟩ := hs args r h
    unfold pureOf closeUp
    rw [runB hB n hn hg h1, hts]; exact h2
theorem sayR {fz : List Bool} {spec : List AV → AHeap → Option (AV × AHeap)} (hs : ∀ args H r, spec args H = some r → args.length = n ∧ raw (afinR g (B (args0 args) H)) = some r) : Sound tp f (.ref fz spec) :=
  (sound_ref hC Mixed (draws _ _) K hf hb hok hcl fz).lessR fun args H r h => by
    obtain ⟨h1, h2⟩ := hs args H r h
    unfold refOf
    rw [runB hB n hn hg h1]; exact h2
theorem sayT {fz : List Bool} {spec : List AV → AHeap → Option (AV × AHeap)} (hs : ∀ args H r, spec args H = some r → args.length = n ∧ forget H (afinR g (B (args0 args) H)) = some r) : Sound tp f (.ref fz spec) :=
  (sound_refT hC Mixed (draws _ _) K hf hb hok hcl fz).lessR fun args H r h => by
    obtain ⟨h1, h2⟩ := hs args H r h
    unfold refT
    rw [runB hB n hn hg h1]; exact h2
end
end Go.Abs
