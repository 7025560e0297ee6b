/-
  No cell of these rows narrows 'for every input' (looked for: loops, veiled, ifaces, maps, wideKeys, modest, calm, conditions, laid).
  DERIVED. THE GIVEN ROWS OF THIS SEAT. 10 by the template 'for every input the law returns true; each argument reads behind the call as it read before'; 0 by the template 'total and deterministic' (their statements: YtgcfbommjdcgkaaTotals.lean).
  GIVEN WITH THE SEED: the statements are not yours to turn. If you find one false, say at which input.
  Laid BY PROGRAM, IN A SANDBOX (cutbox-rows.mjs): the forced cells as the released guide's own fill.sh prints them over the translation f974611986221fda… (all of the seat's roots in one cut). By AI agents, Wed Nov 11 2026. No macro, syntax, notation, axiom, sorry.
-/
import Derived.Test.YtgcfbommjdcgkaaChecked
import GoSem.Claim
import GoSem.ClaimJoined
import GoSem.ClaimMapViews
import Derived.JoinedTies
import Derived.KernelRfl
namespace Go.Proofs.Ytgcfbommjdcgkaa
/- THE CELL 'sum', in the pinned program and in every row, IS THE sha256 OF THE DUMP (.gsa) THAT YtgcfbommjdcgkaaProg.lean LOADS. Nothing in Lean hashes anything: it is a label: what it is worth is what the hold of that sum in a sandbox is worth. -/
noncomputable def Try.pinned : Pinned := { name := "ytgcfbommjdcgkaa", sum := "f974611986221fda11eb6085da47e97156aacd0aed0096230bbe5adc4215ef4e", checked := Try.checked }
namespace Rows
def none {H : Type} : Left H := { results := [], args := [] }

/-- 'bautalaw02.ThumbOne': WHATEVER THE INPUT: true; the input reads as it did. -/
def thumbOneSpec : ChangeSpec := { name := "thumbOne", fn := fun _ => fun
  | [d1, d2] => { results := [.lit (.bool true)], args := [d1, d2] }
  | _ => none }
def thumbOneRow : OpenClaim := { program := "ytgcfbommjdcgkaa", sum := "f974611986221fda11eb6085da47e97156aacd0aed0096230bbe5adc4215ef4e", func := "bauta/bautalaw02.ThumbOne", spec := "thumbOne", apart := false }
def ThumbOneSaid : Prop := thumbOneRow.holds Try.pinned (OpenSpec.ofChange thumbOneSpec)

/-- ITS FALSE NEIGHBOUR: 'it returns false'. Refute it at one input. -/
def thumbOneWrong : ChangeSpec := { name := "thumbOne", fn := fun _ => fun
  | [d1, d2] => { results := [.lit (.bool false)], args := [d1, d2] }
  | _ => none }
def ThumbOneWrongFalsely : Prop := thumbOneRow.holds Try.pinned (OpenSpec.ofChange thumbOneWrong)

/-- 'bautalaw02.ThumbPuts': WHATEVER THE INPUT: true; the input reads as it did. -/
def thumbPutsSpec : ChangeSpec := { name := "thumbPuts", fn := fun _ => fun
  | [d] => { results := [.lit (.bool true)], args := [d] }
  | _ => none }
def thumbPutsRow : OpenClaim := { program := "ytgcfbommjdcgkaa", sum := "f974611986221fda11eb6085da47e97156aacd0aed0096230bbe5adc4215ef4e", func := "bauta/bautalaw02.ThumbPuts", spec := "thumbPuts", apart := false }
def ThumbPutsSaid : Prop := thumbPutsRow.holds Try.pinned (OpenSpec.ofChange thumbPutsSpec)

/-- ITS FALSE NEIGHBOUR: 'it returns false'. Refute it at one input. -/
def thumbPutsWrong : ChangeSpec := { name := "thumbPuts", fn := fun _ => fun
  | [d] => { results := [.lit (.bool false)], args := [d] }
  | _ => none }
def ThumbPutsWrongFalsely : Prop := thumbPutsRow.holds Try.pinned (OpenSpec.ofChange thumbPutsWrong)

/-- 'bautalaw02.ThumbTakes': WHATEVER THE INPUT: true; the input reads as it did. -/
def thumbTakesSpec : ChangeSpec := { name := "thumbTakes", fn := fun _ => fun
  | [d] => { results := [.lit (.bool true)], args := [d] }
  | _ => none }
def thumbTakesRow : OpenClaim := { program := "ytgcfbommjdcgkaa", sum := "f974611986221fda11eb6085da47e97156aacd0aed0096230bbe5adc4215ef4e", func := "bauta/bautalaw02.ThumbTakes", spec := "thumbTakes", apart := false }
def ThumbTakesSaid : Prop := thumbTakesRow.holds Try.pinned (OpenSpec.ofChange thumbTakesSpec)

/-- ITS FALSE NEIGHBOUR: 'it returns false'. Refute it at one input. -/
def thumbTakesWrong : ChangeSpec := { name := "thumbTakes", fn := fun _ => fun
  | [d] => { results := [.lit (.bool false)], args := [d] }
  | _ => none }
def ThumbTakesWrongFalsely : Prop := thumbTakesRow.holds Try.pinned (OpenSpec.ofChange thumbTakesWrong)

/-- 'bautalaw06.CoreAdds': WHATEVER THE INPUT: true; the input reads as it did. -/
def coreAddsSpec : ChangeSpec := { name := "coreAdds", fn := fun _ => fun
  | [d1, d2] => { results := [.lit (.bool true)], args := [d1, d2] }
  | _ => none }
def coreAddsRow : OpenClaim := { program := "ytgcfbommjdcgkaa", sum := "f974611986221fda11eb6085da47e97156aacd0aed0096230bbe5adc4215ef4e", func := "bauta/bautalaw06.CoreAdds", spec := "coreAdds", apart := false }
def CoreAddsSaid : Prop := coreAddsRow.holds Try.pinned (OpenSpec.ofChange coreAddsSpec)

/-- ITS FALSE NEIGHBOUR: 'it returns false'. Refute it at one input. -/
def coreAddsWrong : ChangeSpec := { name := "coreAdds", fn := fun _ => fun
  | [d1, d2] => { results := [.lit (.bool false)], args := [d1, d2] }
  | _ => none }
def CoreAddsWrongFalsely : Prop := coreAddsRow.holds Try.pinned (OpenSpec.ofChange coreAddsWrong)

/-- 'bautalaw06.CoreRuns': WHATEVER THE INPUT: true; the input reads as it did. -/
def coreRunsSpec : ChangeSpec := { name := "coreRuns", fn := fun _ => fun
  | [d1, d2, d3] => { results := [.lit (.bool true)], args := [d1, d2, d3] }
  | _ => none }
def coreRunsRow : OpenClaim := { program := "ytgcfbommjdcgkaa", sum := "f974611986221fda11eb6085da47e97156aacd0aed0096230bbe5adc4215ef4e", func := "bauta/bautalaw06.CoreRuns", spec := "coreRuns", apart := false }
def CoreRunsSaid : Prop := coreRunsRow.holds Try.pinned (OpenSpec.ofChange coreRunsSpec)

/-- ITS FALSE NEIGHBOUR: 'it returns false'. Refute it at one input. -/
def coreRunsWrong : ChangeSpec := { name := "coreRuns", fn := fun _ => fun
  | [d1, d2, d3] => { results := [.lit (.bool false)], args := [d1, d2, d3] }
  | _ => none }
def CoreRunsWrongFalsely : Prop := coreRunsRow.holds Try.pinned (OpenSpec.ofChange coreRunsWrong)

/-- 'bautalaw06.CoreOne': WHATEVER THE INPUT: true; the input reads as it did. -/
def coreOneSpec : ChangeSpec := { name := "coreOne", fn := fun _ => fun
  | [d1, d2] => { results := [.lit (.bool true)], args := [d1, d2] }
  | _ => none }
def coreOneRow : OpenClaim := { program := "ytgcfbommjdcgkaa", sum := "f974611986221fda11eb6085da47e97156aacd0aed0096230bbe5adc4215ef4e", func := "bauta/bautalaw06.CoreOne", spec := "coreOne", apart := false }
def CoreOneSaid : Prop := coreOneRow.holds Try.pinned (OpenSpec.ofChange coreOneSpec)

/-- ITS FALSE NEIGHBOUR: 'it returns false'. Refute it at one input. -/
def coreOneWrong : ChangeSpec := { name := "coreOne", fn := fun _ => fun
  | [d1, d2] => { results := [.lit (.bool false)], args := [d1, d2] }
  | _ => none }
def CoreOneWrongFalsely : Prop := coreOneRow.holds Try.pinned (OpenSpec.ofChange coreOneWrong)

/-- 'bautalaw06.CoreHolds': WHATEVER THE INPUT: true; the input reads as it did. -/
def coreHoldsSpec : ChangeSpec := { name := "coreHolds", fn := fun _ => fun
  | [d1, d2, d3] => { results := [.lit (.bool true)], args := [d1, d2, d3] }
  | _ => none }
def coreHoldsRow : OpenClaim := { program := "ytgcfbommjdcgkaa", sum := "f974611986221fda11eb6085da47e97156aacd0aed0096230bbe5adc4215ef4e", func := "bauta/bautalaw06.CoreHolds", spec := "coreHolds", apart := false }
def CoreHoldsSaid : Prop := coreHoldsRow.holds Try.pinned (OpenSpec.ofChange coreHoldsSpec)

/-- ITS FALSE NEIGHBOUR: 'it returns false'. Refute it at one input. -/
def coreHoldsWrong : ChangeSpec := { name := "coreHolds", fn := fun _ => fun
  | [d1, d2, d3] => { results := [.lit (.bool false)], args := [d1, d2, d3] }
  | _ => none }
def CoreHoldsWrongFalsely : Prop := coreHoldsRow.holds Try.pinned (OpenSpec.ofChange coreHoldsWrong)

/-- 'bautalaw06.CoreSteps': WHATEVER THE INPUT: true; the input reads as it did. -/
def coreStepsSpec : ChangeSpec := { name := "coreSteps", fn := fun _ => fun
  | [d1, d2, d3] => { results := [.lit (.bool true)], args := [d1, d2, d3] }
  | _ => none }
def coreStepsRow : OpenClaim := { program := "ytgcfbommjdcgkaa", sum := "f974611986221fda11eb6085da47e97156aacd0aed0096230bbe5adc4215ef4e", func := "bauta/bautalaw06.CoreSteps", spec := "coreSteps", apart := false }
def CoreStepsSaid : Prop := coreStepsRow.holds Try.pinned (OpenSpec.ofChange coreStepsSpec)

/-- ITS FALSE NEIGHBOUR: 'it returns false'. Refute it at one input. -/
def coreStepsWrong : ChangeSpec := { name := "coreSteps", fn := fun _ => fun
  | [d1, d2, d3] => { results := [.lit (.bool false)], args := [d1, d2, d3] }
  | _ => none }
def CoreStepsWrongFalsely : Prop := coreStepsRow.holds Try.pinned (OpenSpec.ofChange coreStepsWrong)

/-- 'bautalaw02.ThumbRegs': WHATEVER THE INPUT: true; the input reads as it did. -/
def thumbRegsSpec : ChangeSpec := { name := "thumbRegs", fn := fun _ => fun
  | [d] => { results := [.lit (.bool true)], args := [d] }
  | _ => none }
def thumbRegsRow : OpenClaim := { program := "ytgcfbommjdcgkaa", sum := "f974611986221fda11eb6085da47e97156aacd0aed0096230bbe5adc4215ef4e", func := "bauta/bautalaw02.ThumbRegs", spec := "thumbRegs", recurses := true, apart := false }
def ThumbRegsSaid : Prop := thumbRegsRow.holds Try.pinned (OpenSpec.ofChange thumbRegsSpec)

/-- ITS FALSE NEIGHBOUR: 'it returns false'. Refute it at one input. -/
def thumbRegsWrong : ChangeSpec := { name := "thumbRegs", fn := fun _ => fun
  | [d] => { results := [.lit (.bool false)], args := [d] }
  | _ => none }
def ThumbRegsWrongFalsely : Prop := thumbRegsRow.holds Try.pinned (OpenSpec.ofChange thumbRegsWrong)

/-- 'bautalaw02.ThumbRises': WHATEVER THE INPUT: true; the input reads as it did. -/
def thumbRisesSpec : ChangeSpec := { name := "thumbRises", fn := fun _ => fun
  | [d] => { results := [.lit (.bool true)], args := [d] }
  | _ => none }
def thumbRisesRow : OpenClaim := { program := "ytgcfbommjdcgkaa", sum := "f974611986221fda11eb6085da47e97156aacd0aed0096230bbe5adc4215ef4e", func := "bauta/bautalaw02.ThumbRises", spec := "thumbRises", recurses := true, apart := false }
def ThumbRisesSaid : Prop := thumbRisesRow.holds Try.pinned (OpenSpec.ofChange thumbRisesSpec)

/-- ITS FALSE NEIGHBOUR: 'it returns false'. Refute it at one input. -/
def thumbRisesWrong : ChangeSpec := { name := "thumbRises", fn := fun _ => fun
  | [d] => { results := [.lit (.bool false)], args := [d] }
  | _ => none }
def ThumbRisesWrongFalsely : Prop := thumbRisesRow.holds Try.pinned (OpenSpec.ofChange thumbRisesWrong)

/- THE SECOND FORM. 'bulk': how many values and letters a reading holds, each counted each time it is reached (what is shared counts as often as it is met; a slice's spare places count too). A statement '..UptoSaid' is the law's where the arguments, and the package variables that the reading takes, are together of bulk at most 1048576: NARROWER than '..Said'. Prove '..Said' where nothing that the law and all that it calls make is longer than what came in: it says more and counts as full. Else prove '..UptoSaid'. A law counts once. -/
mutual
def uptoBulk {H : Type} : DataW H → Nat
  | .lit (.string bytes) => bytes.length + 1
  | .lit _ => 1
  | .nil => 1
  | .ptr d => uptoBulk d + 1
  | .slice elems spare => uptoBulkAll elems + uptoBulkAll spare + 1
  | .agg parts => uptoBulkAll parts + 1
  | .iface _ d => uptoBulk d + 1
  | .map entries => uptoBulkEntries entries + 1
  | .held _ => 1
def uptoBulkAll {H : Type} : List (DataW H) → Nat
  | [] => 0
  | d :: r => uptoBulk d + uptoBulkAll r
def uptoBulkEntries {H : Type} : List (Lit × DataW H) → Nat
  | [] => 0
  | x :: r => uptoBulkEntry x + uptoBulkEntries r
def uptoBulkEntry {H : Type} : Lit × DataW H → Nat
  | (.string bytes, d) => bytes.length + uptoBulk d + 1
  | (_, d) => uptoBulk d + 1
 end
def uptoSmall : (H : Type) → List (DataW H) → Bool := fun _ ds => decide (uptoBulkAll ds ≤ 1048576)
def OpenSpec.upto (s : _root_.Go.ChangeSpec) : _root_.Go.OpenSpec := { _root_.Go.OpenSpec.ofChange s with cond := some uptoSmall }

/-- 'bautalaw02.ThumbOne', WHERE WHAT IT READS IS OF BULK AT MOST 1048576: true; the input reads as it did. -/
def thumbOneUptoRow : OpenClaim := { program := "ytgcfbommjdcgkaa", sum := "f974611986221fda11eb6085da47e97156aacd0aed0096230bbe5adc4215ef4e", func := "bauta/bautalaw02.ThumbOne", spec := "thumbOne", apart := false, narrowed := true }
def ThumbOneUptoSaid : Prop := thumbOneUptoRow.holds Try.pinned (OpenSpec.upto thumbOneSpec)

/-- 'bautalaw02.ThumbPuts', WHERE WHAT IT READS IS OF BULK AT MOST 1048576: true; the input reads as it did. -/
def thumbPutsUptoRow : OpenClaim := { program := "ytgcfbommjdcgkaa", sum := "f974611986221fda11eb6085da47e97156aacd0aed0096230bbe5adc4215ef4e", func := "bauta/bautalaw02.ThumbPuts", spec := "thumbPuts", apart := false, narrowed := true }
def ThumbPutsUptoSaid : Prop := thumbPutsUptoRow.holds Try.pinned (OpenSpec.upto thumbPutsSpec)

/-- 'bautalaw02.ThumbTakes', WHERE WHAT IT READS IS OF BULK AT MOST 1048576: true; the input reads as it did. -/
def thumbTakesUptoRow : OpenClaim := { program := "ytgcfbommjdcgkaa", sum := "f974611986221fda11eb6085da47e97156aacd0aed0096230bbe5adc4215ef4e", func := "bauta/bautalaw02.ThumbTakes", spec := "thumbTakes", apart := false, narrowed := true }
def ThumbTakesUptoSaid : Prop := thumbTakesUptoRow.holds Try.pinned (OpenSpec.upto thumbTakesSpec)

/-- 'bautalaw06.CoreAdds', WHERE WHAT IT READS IS OF BULK AT MOST 1048576: true; the input reads as it did. -/
def coreAddsUptoRow : OpenClaim := { program := "ytgcfbommjdcgkaa", sum := "f974611986221fda11eb6085da47e97156aacd0aed0096230bbe5adc4215ef4e", func := "bauta/bautalaw06.CoreAdds", spec := "coreAdds", apart := false, narrowed := true }
def CoreAddsUptoSaid : Prop := coreAddsUptoRow.holds Try.pinned (OpenSpec.upto coreAddsSpec)

/-- 'bautalaw06.CoreRuns', WHERE WHAT IT READS IS OF BULK AT MOST 1048576: true; the input reads as it did. -/
def coreRunsUptoRow : OpenClaim := { program := "ytgcfbommjdcgkaa", sum := "f974611986221fda11eb6085da47e97156aacd0aed0096230bbe5adc4215ef4e", func := "bauta/bautalaw06.CoreRuns", spec := "coreRuns", apart := false, narrowed := true }
def CoreRunsUptoSaid : Prop := coreRunsUptoRow.holds Try.pinned (OpenSpec.upto coreRunsSpec)

/-- 'bautalaw06.CoreOne', WHERE WHAT IT READS IS OF BULK AT MOST 1048576: true; the input reads as it did. -/
def coreOneUptoRow : OpenClaim := { program := "ytgcfbommjdcgkaa", sum := "f974611986221fda11eb6085da47e97156aacd0aed0096230bbe5adc4215ef4e", func := "bauta/bautalaw06.CoreOne", spec := "coreOne", apart := false, narrowed := true }
def CoreOneUptoSaid : Prop := coreOneUptoRow.holds Try.pinned (OpenSpec.upto coreOneSpec)

/-- 'bautalaw06.CoreHolds', WHERE WHAT IT READS IS OF BULK AT MOST 1048576: true; the input reads as it did. -/
def coreHoldsUptoRow : OpenClaim := { program := "ytgcfbommjdcgkaa", sum := "f974611986221fda11eb6085da47e97156aacd0aed0096230bbe5adc4215ef4e", func := "bauta/bautalaw06.CoreHolds", spec := "coreHolds", apart := false, narrowed := true }
def CoreHoldsUptoSaid : Prop := coreHoldsUptoRow.holds Try.pinned (OpenSpec.upto coreHoldsSpec)

/-- 'bautalaw06.CoreSteps', WHERE WHAT IT READS IS OF BULK AT MOST 1048576: true; the input reads as it did. -/
def coreStepsUptoRow : OpenClaim := { program := "ytgcfbommjdcgkaa", sum := "f974611986221fda11eb6085da47e97156aacd0aed0096230bbe5adc4215ef4e", func := "bauta/bautalaw06.CoreSteps", spec := "coreSteps", apart := false, narrowed := true }
def CoreStepsUptoSaid : Prop := coreStepsUptoRow.holds Try.pinned (OpenSpec.upto coreStepsSpec)

/-- 'bautalaw02.ThumbRegs', WHERE WHAT IT READS IS OF BULK AT MOST 1048576: true; the input reads as it did. -/
def thumbRegsUptoRow : OpenClaim := { program := "ytgcfbommjdcgkaa", sum := "f974611986221fda11eb6085da47e97156aacd0aed0096230bbe5adc4215ef4e", func := "bauta/bautalaw02.ThumbRegs", spec := "thumbRegs", recurses := true, apart := false, narrowed := true }
def ThumbRegsUptoSaid : Prop := thumbRegsUptoRow.holds Try.pinned (OpenSpec.upto thumbRegsSpec)

/-- 'bautalaw02.ThumbRises', WHERE WHAT IT READS IS OF BULK AT MOST 1048576: true; the input reads as it did. -/
def thumbRisesUptoRow : OpenClaim := { program := "ytgcfbommjdcgkaa", sum := "f974611986221fda11eb6085da47e97156aacd0aed0096230bbe5adc4215ef4e", func := "bauta/bautalaw02.ThumbRises", spec := "thumbRises", recurses := true, apart := false, narrowed := true }
def ThumbRisesUptoSaid : Prop := thumbRisesUptoRow.holds Try.pinned (OpenSpec.upto thumbRisesSpec)

end Rows
end Go.Proofs.Ytgcfbommjdcgkaa
