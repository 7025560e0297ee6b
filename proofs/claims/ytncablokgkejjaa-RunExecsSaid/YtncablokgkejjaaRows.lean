/-
  No cell of these rows narrows 'for every input' (looked for: loops, veiled, ifaces, maps, wideKeys, modest, calm, conditions, laid).
  DERIVED. THE GIVEN ROWS OF THIS SEAT. 12 by the template 'for every input the law returns true; each argument reads behind the call as it read before'; 0 by the template 'total and deterministic' (their statements: YtncablokgkejjaaTotals.lean).
  GIVEN WITH THE SEED: the statements are not yours to turn. If you find one false, say at which input.
  Laid BY PROGRAM, IN A SANDBOX (cutbox-rows.mjs): the forced cells as the released guide's own fill.sh prints them over the translation 0813c181dfece969… (all of the seat's roots in one cut). By AI agents, Wed Nov 11 2026. No macro, syntax, notation, axiom, sorry.
-/
import Derived.Test.YtncablokgkejjaaChecked
import GoSem.Claim
import GoSem.ClaimJoined
import GoSem.ClaimMapViews
import Derived.JoinedTies
import Derived.KernelRfl
namespace Go.Proofs.Ytncablokgkejjaa
/- THE CELL 'sum', in the pinned program and in every row, IS THE sha256 OF THE DUMP (.gsa) THAT YtncablokgkejjaaProg.lean LOADS. Nothing in Lean hashes anything: it is a label: what it is worth is what the hold of that sum in a sandbox is worth. -/
noncomputable def Try.pinned : Pinned := { name := "ytncablokgkejjaa", sum := "0813c181dfece969f11a01732298a1d9816ecef9846e06c8378e999086bd2b96", checked := Try.checked }
namespace Rows
def none {H : Type} : Left H := { results := [], args := [] }

/-- 'bautalaw06.CoreRuns': WHATEVER THE INPUT: true; the input reads as it did. -/
def coreRunsSpec : ChangeSpec := { name := "coreRuns", fn := fun _ => fun
  | [d1, d2, d3] => { results := [.lit (.bool true)], args := [d1, d2, d3] }
  | _ => none }
def coreRunsRow : OpenClaim := { program := "ytncablokgkejjaa", sum := "0813c181dfece969f11a01732298a1d9816ecef9846e06c8378e999086bd2b96", func := "bauta/bautalaw06.CoreRuns", spec := "coreRuns", apart := false }
def CoreRunsSaid : Prop := coreRunsRow.holds Try.pinned (OpenSpec.ofChange coreRunsSpec)

/-- ITS FALSE NEIGHBOUR: 'it returns false'. Refute it at one input. -/
def coreRunsWrong : ChangeSpec := { name := "coreRuns", fn := fun _ => fun
  | [d1, d2, d3] => { results := [.lit (.bool false)], args := [d1, d2, d3] }
  | _ => none }
def CoreRunsWrongFalsely : Prop := coreRunsRow.holds Try.pinned (OpenSpec.ofChange coreRunsWrong)

/-- 'bautalaw06.CoreOne': WHATEVER THE INPUT: true; the input reads as it did. -/
def coreOneSpec : ChangeSpec := { name := "coreOne", fn := fun _ => fun
  | [d1, d2] => { results := [.lit (.bool true)], args := [d1, d2] }
  | _ => none }
def coreOneRow : OpenClaim := { program := "ytncablokgkejjaa", sum := "0813c181dfece969f11a01732298a1d9816ecef9846e06c8378e999086bd2b96", func := "bauta/bautalaw06.CoreOne", spec := "coreOne", apart := false }
def CoreOneSaid : Prop := coreOneRow.holds Try.pinned (OpenSpec.ofChange coreOneSpec)

/-- ITS FALSE NEIGHBOUR: 'it returns false'. Refute it at one input. -/
def coreOneWrong : ChangeSpec := { name := "coreOne", fn := fun _ => fun
  | [d1, d2] => { results := [.lit (.bool false)], args := [d1, d2] }
  | _ => none }
def CoreOneWrongFalsely : Prop := coreOneRow.holds Try.pinned (OpenSpec.ofChange coreOneWrong)

/-- 'bautalaw06.CoreSteps': WHATEVER THE INPUT: true; the input reads as it did. -/
def coreStepsSpec : ChangeSpec := { name := "coreSteps", fn := fun _ => fun
  | [d1, d2, d3] => { results := [.lit (.bool true)], args := [d1, d2, d3] }
  | _ => none }
def coreStepsRow : OpenClaim := { program := "ytncablokgkejjaa", sum := "0813c181dfece969f11a01732298a1d9816ecef9846e06c8378e999086bd2b96", func := "bauta/bautalaw06.CoreSteps", spec := "coreSteps", apart := false }
def CoreStepsSaid : Prop := coreStepsRow.holds Try.pinned (OpenSpec.ofChange coreStepsSpec)

/-- ITS FALSE NEIGHBOUR: 'it returns false'. Refute it at one input. -/
def coreStepsWrong : ChangeSpec := { name := "coreSteps", fn := fun _ => fun
  | [d1, d2, d3] => { results := [.lit (.bool false)], args := [d1, d2, d3] }
  | _ => none }
def CoreStepsWrongFalsely : Prop := coreStepsRow.holds Try.pinned (OpenSpec.ofChange coreStepsWrong)

/-- 'bautalaw07.LeakBus': WHATEVER THE INPUT: true; the input reads as it did. -/
def leakBusSpec : ChangeSpec := { name := "leakBus", fn := fun _ => fun
  | [d] => { results := [.lit (.bool true)], args := [d] }
  | _ => none }
def leakBusRow : OpenClaim := { program := "ytncablokgkejjaa", sum := "0813c181dfece969f11a01732298a1d9816ecef9846e06c8378e999086bd2b96", func := "bauta/bautalaw07.LeakBus", spec := "leakBus", apart := false }
def LeakBusSaid : Prop := leakBusRow.holds Try.pinned (OpenSpec.ofChange leakBusSpec)

/-- ITS FALSE NEIGHBOUR: 'it returns false'. Refute it at one input. -/
def leakBusWrong : ChangeSpec := { name := "leakBus", fn := fun _ => fun
  | [d] => { results := [.lit (.bool false)], args := [d] }
  | _ => none }
def LeakBusWrongFalsely : Prop := leakBusRow.holds Try.pinned (OpenSpec.ofChange leakBusWrong)

/-- 'bautalaw07.LeakParts': WHATEVER THE INPUT: true; the input reads as it did. -/
def leakPartsSpec : ChangeSpec := { name := "leakParts", fn := fun _ => fun
  | [d1, d2] => { results := [.lit (.bool true)], args := [d1, d2] }
  | _ => none }
def leakPartsRow : OpenClaim := { program := "ytncablokgkejjaa", sum := "0813c181dfece969f11a01732298a1d9816ecef9846e06c8378e999086bd2b96", func := "bauta/bautalaw07.LeakParts", spec := "leakParts", apart := false }
def LeakPartsSaid : Prop := leakPartsRow.holds Try.pinned (OpenSpec.ofChange leakPartsSpec)

/-- ITS FALSE NEIGHBOUR: 'it returns false'. Refute it at one input. -/
def leakPartsWrong : ChangeSpec := { name := "leakParts", fn := fun _ => fun
  | [d1, d2] => { results := [.lit (.bool false)], args := [d1, d2] }
  | _ => none }
def LeakPartsWrongFalsely : Prop := leakPartsRow.holds Try.pinned (OpenSpec.ofChange leakPartsWrong)

/-- 'bautalaw07.LeakSteps': WHATEVER THE INPUT: true; the input reads as it did. -/
def leakStepsSpec : ChangeSpec := { name := "leakSteps", fn := fun _ => fun
  | [d1, d2, d3] => { results := [.lit (.bool true)], args := [d1, d2, d3] }
  | _ => none }
def leakStepsRow : OpenClaim := { program := "ytncablokgkejjaa", sum := "0813c181dfece969f11a01732298a1d9816ecef9846e06c8378e999086bd2b96", func := "bauta/bautalaw07.LeakSteps", spec := "leakSteps", apart := false }
def LeakStepsSaid : Prop := leakStepsRow.holds Try.pinned (OpenSpec.ofChange leakStepsSpec)

/-- ITS FALSE NEIGHBOUR: 'it returns false'. Refute it at one input. -/
def leakStepsWrong : ChangeSpec := { name := "leakSteps", fn := fun _ => fun
  | [d1, d2, d3] => { results := [.lit (.bool false)], args := [d1, d2, d3] }
  | _ => none }
def LeakStepsWrongFalsely : Prop := leakStepsRow.holds Try.pinned (OpenSpec.ofChange leakStepsWrong)

/-- 'bautalaw07.LeakSets': WHATEVER THE INPUT: true; the input reads as it did. -/
def leakSetsSpec : ChangeSpec := { name := "leakSets", fn := fun _ => fun
  | [d1, d2, d3] => { results := [.lit (.bool true)], args := [d1, d2, d3] }
  | _ => none }
def leakSetsRow : OpenClaim := { program := "ytncablokgkejjaa", sum := "0813c181dfece969f11a01732298a1d9816ecef9846e06c8378e999086bd2b96", func := "bauta/bautalaw07.LeakSets", spec := "leakSets", apart := false }
def LeakSetsSaid : Prop := leakSetsRow.holds Try.pinned (OpenSpec.ofChange leakSetsSpec)

/-- ITS FALSE NEIGHBOUR: 'it returns false'. Refute it at one input. -/
def leakSetsWrong : ChangeSpec := { name := "leakSets", fn := fun _ => fun
  | [d1, d2, d3] => { results := [.lit (.bool false)], args := [d1, d2, d3] }
  | _ => none }
def LeakSetsWrongFalsely : Prop := leakSetsRow.holds Try.pinned (OpenSpec.ofChange leakSetsWrong)

/-- 'bautalaw08.RunLonger': WHATEVER THE INPUT: true; the input reads as it did. -/
def runLongerSpec : ChangeSpec := { name := "runLonger", fn := fun _ => fun
  | [d1, d2, d3] => { results := [.lit (.bool true)], args := [d1, d2, d3] }
  | _ => none }
def runLongerRow : OpenClaim := { program := "ytncablokgkejjaa", sum := "0813c181dfece969f11a01732298a1d9816ecef9846e06c8378e999086bd2b96", func := "bauta/bautalaw08.RunLonger", spec := "runLonger", apart := false }
def RunLongerSaid : Prop := runLongerRow.holds Try.pinned (OpenSpec.ofChange runLongerSpec)

/-- ITS FALSE NEIGHBOUR: 'it returns false'. Refute it at one input. -/
def runLongerWrong : ChangeSpec := { name := "runLonger", fn := fun _ => fun
  | [d1, d2, d3] => { results := [.lit (.bool false)], args := [d1, d2, d3] }
  | _ => none }
def RunLongerWrongFalsely : Prop := runLongerRow.holds Try.pinned (OpenSpec.ofChange runLongerWrong)

/-- 'bautalaw08.RunTape': WHATEVER THE INPUT: true; the input reads as it did. -/
def runTapeSpec : ChangeSpec := { name := "runTape", fn := fun _ => fun
  | [d1, d2] => { results := [.lit (.bool true)], args := [d1, d2] }
  | _ => none }
def runTapeRow : OpenClaim := { program := "ytncablokgkejjaa", sum := "0813c181dfece969f11a01732298a1d9816ecef9846e06c8378e999086bd2b96", func := "bauta/bautalaw08.RunTape", spec := "runTape", apart := false }
def RunTapeSaid : Prop := runTapeRow.holds Try.pinned (OpenSpec.ofChange runTapeSpec)

/-- ITS FALSE NEIGHBOUR: 'it returns false'. Refute it at one input. -/
def runTapeWrong : ChangeSpec := { name := "runTape", fn := fun _ => fun
  | [d1, d2] => { results := [.lit (.bool false)], args := [d1, d2] }
  | _ => none }
def RunTapeWrongFalsely : Prop := runTapeRow.holds Try.pinned (OpenSpec.ofChange runTapeWrong)

/-- 'bautalaw08.RunExecs': WHATEVER THE INPUT: true; the input reads as it did. -/
def runExecsSpec : ChangeSpec := { name := "runExecs", fn := fun _ => fun
  | [d1, d2] => { results := [.lit (.bool true)], args := [d1, d2] }
  | _ => none }
def runExecsRow : OpenClaim := { program := "ytncablokgkejjaa", sum := "0813c181dfece969f11a01732298a1d9816ecef9846e06c8378e999086bd2b96", func := "bauta/bautalaw08.RunExecs", spec := "runExecs", apart := false }
def RunExecsSaid : Prop := runExecsRow.holds Try.pinned (OpenSpec.ofChange runExecsSpec)

/-- ITS FALSE NEIGHBOUR: 'it returns false'. Refute it at one input. -/
def runExecsWrong : ChangeSpec := { name := "runExecs", fn := fun _ => fun
  | [d1, d2] => { results := [.lit (.bool false)], args := [d1, d2] }
  | _ => none }
def RunExecsWrongFalsely : Prop := runExecsRow.holds Try.pinned (OpenSpec.ofChange runExecsWrong)

/-- 'bautalaw08.RunBounds': WHATEVER THE INPUT: true; the input reads as it did. -/
def runBoundsSpec : ChangeSpec := { name := "runBounds", fn := fun _ => fun
  | [d1, d2] => { results := [.lit (.bool true)], args := [d1, d2] }
  | _ => none }
def runBoundsRow : OpenClaim := { program := "ytncablokgkejjaa", sum := "0813c181dfece969f11a01732298a1d9816ecef9846e06c8378e999086bd2b96", func := "bauta/bautalaw08.RunBounds", spec := "runBounds", apart := false }
def RunBoundsSaid : Prop := runBoundsRow.holds Try.pinned (OpenSpec.ofChange runBoundsSpec)

/-- ITS FALSE NEIGHBOUR: 'it returns false'. Refute it at one input. -/
def runBoundsWrong : ChangeSpec := { name := "runBounds", fn := fun _ => fun
  | [d1, d2] => { results := [.lit (.bool false)], args := [d1, d2] }
  | _ => none }
def RunBoundsWrongFalsely : Prop := runBoundsRow.holds Try.pinned (OpenSpec.ofChange runBoundsWrong)

/-- 'bautalaw08.RunRoads': WHATEVER THE INPUT: true; the input reads as it did. -/
def runRoadsSpec : ChangeSpec := { name := "runRoads", fn := fun _ => fun
  | [d1, d2, d3] => { results := [.lit (.bool true)], args := [d1, d2, d3] }
  | _ => none }
def runRoadsRow : OpenClaim := { program := "ytncablokgkejjaa", sum := "0813c181dfece969f11a01732298a1d9816ecef9846e06c8378e999086bd2b96", func := "bauta/bautalaw08.RunRoads", spec := "runRoads", unfollowed := true, recurses := true, apart := false }
def RunRoadsSaid : Prop := runRoadsRow.holds Try.pinned (OpenSpec.ofChange runRoadsSpec)

/-- ITS FALSE NEIGHBOUR: 'it returns false'. Refute it at one input. -/
def runRoadsWrong : ChangeSpec := { name := "runRoads", fn := fun _ => fun
  | [d1, d2, d3] => { results := [.lit (.bool false)], args := [d1, d2, d3] }
  | _ => none }
def RunRoadsWrongFalsely : Prop := runRoadsRow.holds Try.pinned (OpenSpec.ofChange runRoadsWrong)

/- THE SECOND FORM. 'bulk': how many values and letters a reading holds, each counted each time it is reached (what is shared counts as often as it is met; a slice's spare places count too). A statement '..UptoSaid' is the law's where the arguments, and the package variables that the reading takes, are together of bulk at most 1048576: NARROWER than '..Said'. Prove '..Said' where nothing that the law and all that it calls make is longer than what came in: it says more and counts as full. Else prove '..UptoSaid'. A law counts once. -/
mutual
def uptoBulk {H : Type} : DataW H → Nat
  | .lit (.string bytes) => bytes.length + 1
  | .lit _ => 1
  | .nil => 1
  | .ptr d => uptoBulk d + 1
  | .slice elems spare => uptoBulkAll elems + uptoBulkAll spare + 1
  | .agg parts => uptoBulkAll parts + 1
  | .iface _ d => uptoBulk d + 1
  | .map entries => uptoBulkEntries entries + 1
  | .held _ => 1
def uptoBulkAll {H : Type} : List (DataW H) → Nat
  | [] => 0
  | d :: r => uptoBulk d + uptoBulkAll r
def uptoBulkEntries {H : Type} : List (Lit × DataW H) → Nat
  | [] => 0
  | x :: r => uptoBulkEntry x + uptoBulkEntries r
def uptoBulkEntry {H : Type} : Lit × DataW H → Nat
  | (.string bytes, d) => bytes.length + uptoBulk d + 1
  | (_, d) => uptoBulk d + 1
 end
def uptoSmall : (H : Type) → List (DataW H) → Bool := fun _ ds => decide (uptoBulkAll ds ≤ 1048576)
def OpenSpec.upto (s : _root_.Go.ChangeSpec) : _root_.Go.OpenSpec := { _root_.Go.OpenSpec.ofChange s with cond := some uptoSmall }

/-- 'bautalaw06.CoreRuns', WHERE WHAT IT READS IS OF BULK AT MOST 1048576: true; the input reads as it did. -/
def coreRunsUptoRow : OpenClaim := { program := "ytncablokgkejjaa", sum := "0813c181dfece969f11a01732298a1d9816ecef9846e06c8378e999086bd2b96", func := "bauta/bautalaw06.CoreRuns", spec := "coreRuns", apart := false, narrowed := true }
def CoreRunsUptoSaid : Prop := coreRunsUptoRow.holds Try.pinned (OpenSpec.upto coreRunsSpec)

/-- 'bautalaw06.CoreOne', WHERE WHAT IT READS IS OF BULK AT MOST 1048576: true; the input reads as it did. -/
def coreOneUptoRow : OpenClaim := { program := "ytncablokgkejjaa", sum := "0813c181dfece969f11a01732298a1d9816ecef9846e06c8378e999086bd2b96", func := "bauta/bautalaw06.CoreOne", spec := "coreOne", apart := false, narrowed := true }
def CoreOneUptoSaid : Prop := coreOneUptoRow.holds Try.pinned (OpenSpec.upto coreOneSpec)

/-- 'bautalaw06.CoreSteps', WHERE WHAT IT READS IS OF BULK AT MOST 1048576: true; the input reads as it did. -/
def coreStepsUptoRow : OpenClaim := { program := "ytncablokgkejjaa", sum := "0813c181dfece969f11a01732298a1d9816ecef9846e06c8378e999086bd2b96", func := "bauta/bautalaw06.CoreSteps", spec := "coreSteps", apart := false, narrowed := true }
def CoreStepsUptoSaid : Prop := coreStepsUptoRow.holds Try.pinned (OpenSpec.upto coreStepsSpec)

/-- 'bautalaw07.LeakBus', WHERE WHAT IT READS IS OF BULK AT MOST 1048576: true; the input reads as it did. -/
def leakBusUptoRow : OpenClaim := { program := "ytncablokgkejjaa", sum := "0813c181dfece969f11a01732298a1d9816ecef9846e06c8378e999086bd2b96", func := "bauta/bautalaw07.LeakBus", spec := "leakBus", apart := false, narrowed := true }
def LeakBusUptoSaid : Prop := leakBusUptoRow.holds Try.pinned (OpenSpec.upto leakBusSpec)

/-- 'bautalaw07.LeakParts', WHERE WHAT IT READS IS OF BULK AT MOST 1048576: true; the input reads as it did. -/
def leakPartsUptoRow : OpenClaim := { program := "ytncablokgkejjaa", sum := "0813c181dfece969f11a01732298a1d9816ecef9846e06c8378e999086bd2b96", func := "bauta/bautalaw07.LeakParts", spec := "leakParts", apart := false, narrowed := true }
def LeakPartsUptoSaid : Prop := leakPartsUptoRow.holds Try.pinned (OpenSpec.upto leakPartsSpec)

/-- 'bautalaw07.LeakSteps', WHERE WHAT IT READS IS OF BULK AT MOST 1048576: true; the input reads as it did. -/
def leakStepsUptoRow : OpenClaim := { program := "ytncablokgkejjaa", sum := "0813c181dfece969f11a01732298a1d9816ecef9846e06c8378e999086bd2b96", func := "bauta/bautalaw07.LeakSteps", spec := "leakSteps", apart := false, narrowed := true }
def LeakStepsUptoSaid : Prop := leakStepsUptoRow.holds Try.pinned (OpenSpec.upto leakStepsSpec)

/-- 'bautalaw07.LeakSets', WHERE WHAT IT READS IS OF BULK AT MOST 1048576: true; the input reads as it did. -/
def leakSetsUptoRow : OpenClaim := { program := "ytncablokgkejjaa", sum := "0813c181dfece969f11a01732298a1d9816ecef9846e06c8378e999086bd2b96", func := "bauta/bautalaw07.LeakSets", spec := "leakSets", apart := false, narrowed := true }
def LeakSetsUptoSaid : Prop := leakSetsUptoRow.holds Try.pinned (OpenSpec.upto leakSetsSpec)

/-- 'bautalaw08.RunLonger', WHERE WHAT IT READS IS OF BULK AT MOST 1048576: true; the input reads as it did. -/
def runLongerUptoRow : OpenClaim := { program := "ytncablokgkejjaa", sum := "0813c181dfece969f11a01732298a1d9816ecef9846e06c8378e999086bd2b96", func := "bauta/bautalaw08.RunLonger", spec := "runLonger", apart := false, narrowed := true }
def RunLongerUptoSaid : Prop := runLongerUptoRow.holds Try.pinned (OpenSpec.upto runLongerSpec)

/-- 'bautalaw08.RunTape', WHERE WHAT IT READS IS OF BULK AT MOST 1048576: true; the input reads as it did. -/
def runTapeUptoRow : OpenClaim := { program := "ytncablokgkejjaa", sum := "0813c181dfece969f11a01732298a1d9816ecef9846e06c8378e999086bd2b96", func := "bauta/bautalaw08.RunTape", spec := "runTape", apart := false, narrowed := true }
def RunTapeUptoSaid : Prop := runTapeUptoRow.holds Try.pinned (OpenSpec.upto runTapeSpec)

/-- 'bautalaw08.RunExecs', WHERE WHAT IT READS IS OF BULK AT MOST 1048576: true; the input reads as it did. -/
def runExecsUptoRow : OpenClaim := { program := "ytncablokgkejjaa", sum := "0813c181dfece969f11a01732298a1d9816ecef9846e06c8378e999086bd2b96", func := "bauta/bautalaw08.RunExecs", spec := "runExecs", apart := false, narrowed := true }
def RunExecsUptoSaid : Prop := runExecsUptoRow.holds Try.pinned (OpenSpec.upto runExecsSpec)

/-- 'bautalaw08.RunBounds', WHERE WHAT IT READS IS OF BULK AT MOST 1048576: true; the input reads as it did. -/
def runBoundsUptoRow : OpenClaim := { program := "ytncablokgkejjaa", sum := "0813c181dfece969f11a01732298a1d9816ecef9846e06c8378e999086bd2b96", func := "bauta/bautalaw08.RunBounds", spec := "runBounds", apart := false, narrowed := true }
def RunBoundsUptoSaid : Prop := runBoundsUptoRow.holds Try.pinned (OpenSpec.upto runBoundsSpec)

/-- 'bautalaw08.RunRoads', WHERE WHAT IT READS IS OF BULK AT MOST 1048576: true; the input reads as it did. -/
def runRoadsUptoRow : OpenClaim := { program := "ytncablokgkejjaa", sum := "0813c181dfece969f11a01732298a1d9816ecef9846e06c8378e999086bd2b96", func := "bauta/bautalaw08.RunRoads", spec := "runRoads", unfollowed := true, recurses := true, apart := false, narrowed := true }
def RunRoadsUptoSaid : Prop := runRoadsUptoRow.holds Try.pinned (OpenSpec.upto runRoadsSpec)

end Rows
end Go.Proofs.Ytncablokgkejjaa
