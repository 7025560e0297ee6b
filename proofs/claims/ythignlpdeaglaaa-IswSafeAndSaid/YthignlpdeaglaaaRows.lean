/-
  No cell of these rows narrows 'for every input' (looked for: loops, veiled, ifaces, maps, wideKeys, modest, calm, conditions, laid).
  DERIVED. THE GIVEN ROWS OF THIS SEAT. 11 by the template 'for every input the law returns true; each argument reads behind the call as it read before'; 0 by the template 'total and deterministic' (their statements: YthignlpdeaglaaaTotals.lean).
  GIVEN WITH THE SEED: the statements are not yours to turn. If you find one false, say at which input.
  Laid BY PROGRAM, IN A SANDBOX (cutbox-rows.mjs): the forced cells as the released guide's own fill.sh prints them over the translation c2fff96d8cedf62a… (all of the seat's roots in one cut). By AI agents, Wed Nov 11 2026. No macro, syntax, notation, axiom, sorry.
-/
import Derived.Test.YthignlpdeaglaaaChecked
import GoSem.Claim
import GoSem.ClaimJoined
import GoSem.ClaimMapViews
import Derived.JoinedTies
import Derived.KernelRfl
namespace Go.Proofs.Ythignlpdeaglaaa
/- THE CELL 'sum', in the pinned program and in every row, IS THE sha256 OF THE DUMP (.gsa) THAT YthignlpdeaglaaaProg.lean LOADS. Nothing in Lean hashes anything: it is a label: what it is worth is what the hold of that sum in a sandbox is worth. -/
noncomputable def Try.pinned : Pinned := { name := "ythignlpdeaglaaa", sum := "c2fff96d8cedf62ab713ef1ba9abc5c79d5260806994247df023d2fb105ce1e8", checked := Try.checked }
namespace Rows
def none {H : Type} : Left H := { results := [], args := [] }

/-- 'bautalaw23.ProbeSafes': WHATEVER THE INPUT: true; the input reads as it did. -/
def probeSafesSpec : ChangeSpec := { name := "probeSafes", fn := fun _ => fun
  | [d1, d2, d3] => { results := [.lit (.bool true)], args := [d1, d2, d3] }
  | _ => none }
def probeSafesRow : OpenClaim := { program := "ythignlpdeaglaaa", sum := "c2fff96d8cedf62ab713ef1ba9abc5c79d5260806994247df023d2fb105ce1e8", func := "bauta/bautalaw23.ProbeSafes", spec := "probeSafes", unfollowed := true, recurses := true, apart := false }
def ProbeSafesSaid : Prop := probeSafesRow.holds Try.pinned (OpenSpec.ofChange probeSafesSpec)

/-- ITS FALSE NEIGHBOUR: 'it returns false'. Refute it at one input. -/
def probeSafesWrong : ChangeSpec := { name := "probeSafes", fn := fun _ => fun
  | [d1, d2, d3] => { results := [.lit (.bool false)], args := [d1, d2, d3] }
  | _ => none }
def ProbeSafesWrongFalsely : Prop := probeSafesRow.holds Try.pinned (OpenSpec.ofChange probeSafesWrong)

/-- 'bautalaw23.ProbeLess': WHATEVER THE INPUT: true; the input reads as it did. -/
def probeLessSpec : ChangeSpec := { name := "probeLess", fn := fun _ => fun
  | [d1, d2, d3] => { results := [.lit (.bool true)], args := [d1, d2, d3] }
  | _ => none }
def probeLessRow : OpenClaim := { program := "ythignlpdeaglaaa", sum := "c2fff96d8cedf62ab713ef1ba9abc5c79d5260806994247df023d2fb105ce1e8", func := "bauta/bautalaw23.ProbeLess", spec := "probeLess", unfollowed := true, recurses := true, apart := false }
def ProbeLessSaid : Prop := probeLessRow.holds Try.pinned (OpenSpec.ofChange probeLessSpec)

/-- ITS FALSE NEIGHBOUR: 'it returns false'. Refute it at one input. -/
def probeLessWrong : ChangeSpec := { name := "probeLess", fn := fun _ => fun
  | [d1, d2, d3] => { results := [.lit (.bool false)], args := [d1, d2, d3] }
  | _ => none }
def ProbeLessWrongFalsely : Prop := probeLessRow.holds Try.pinned (OpenSpec.ofChange probeLessWrong)

/-- 'bautalaw23.ProbeSpreads': WHATEVER THE INPUT: true; the input reads as it did. -/
def probeSpreadsSpec : ChangeSpec := { name := "probeSpreads", fn := fun _ => fun
  | [d1, d2, d3] => { results := [.lit (.bool true)], args := [d1, d2, d3] }
  | _ => none }
def probeSpreadsRow : OpenClaim := { program := "ythignlpdeaglaaa", sum := "c2fff96d8cedf62ab713ef1ba9abc5c79d5260806994247df023d2fb105ce1e8", func := "bauta/bautalaw23.ProbeSpreads", spec := "probeSpreads", unfollowed := true, recurses := true, apart := false }
def ProbeSpreadsSaid : Prop := probeSpreadsRow.holds Try.pinned (OpenSpec.ofChange probeSpreadsSpec)

/-- ITS FALSE NEIGHBOUR: 'it returns false'. Refute it at one input. -/
def probeSpreadsWrong : ChangeSpec := { name := "probeSpreads", fn := fun _ => fun
  | [d1, d2, d3] => { results := [.lit (.bool false)], args := [d1, d2, d3] }
  | _ => none }
def ProbeSpreadsWrongFalsely : Prop := probeSpreadsRow.holds Try.pinned (OpenSpec.ofChange probeSpreadsWrong)

/-- 'bautalaw23.ProbeAll': WHATEVER THE INPUT: true; the input reads as it did. -/
def probeAllSpec : ChangeSpec := { name := "probeAll", fn := fun _ => fun
  | [d1, d2, d3] => { results := [.lit (.bool true)], args := [d1, d2, d3] }
  | _ => none }
def probeAllRow : OpenClaim := { program := "ythignlpdeaglaaa", sum := "c2fff96d8cedf62ab713ef1ba9abc5c79d5260806994247df023d2fb105ce1e8", func := "bauta/bautalaw23.ProbeAll", spec := "probeAll", unfollowed := true, recurses := true, apart := false }
def ProbeAllSaid : Prop := probeAllRow.holds Try.pinned (OpenSpec.ofChange probeAllSpec)

/-- ITS FALSE NEIGHBOUR: 'it returns false'. Refute it at one input. -/
def probeAllWrong : ChangeSpec := { name := "probeAll", fn := fun _ => fun
  | [d1, d2, d3] => { results := [.lit (.bool false)], args := [d1, d2, d3] }
  | _ => none }
def ProbeAllWrongFalsely : Prop := probeAllRow.holds Try.pinned (OpenSpec.ofChange probeAllWrong)

/-- 'bautalaw23.ProbeFirst': WHATEVER THE INPUT: true; the input reads as it did. -/
def probeFirstSpec : ChangeSpec := { name := "probeFirst", fn := fun _ => fun
  | [d1, d2] => { results := [.lit (.bool true)], args := [d1, d2] }
  | _ => none }
def probeFirstRow : OpenClaim := { program := "ythignlpdeaglaaa", sum := "c2fff96d8cedf62ab713ef1ba9abc5c79d5260806994247df023d2fb105ce1e8", func := "bauta/bautalaw23.ProbeFirst", spec := "probeFirst", unfollowed := true, recurses := true, apart := false }
def ProbeFirstSaid : Prop := probeFirstRow.holds Try.pinned (OpenSpec.ofChange probeFirstSpec)

/-- ITS FALSE NEIGHBOUR: 'it returns false'. Refute it at one input. -/
def probeFirstWrong : ChangeSpec := { name := "probeFirst", fn := fun _ => fun
  | [d1, d2] => { results := [.lit (.bool false)], args := [d1, d2] }
  | _ => none }
def ProbeFirstWrongFalsely : Prop := probeFirstRow.holds Try.pinned (OpenSpec.ofChange probeFirstWrong)

/-- 'bautalaw19.IswSafeAnd': WHATEVER THE INPUT: true; the input reads as it did. -/
def iswSafeAndSpec : ChangeSpec := { name := "iswSafeAnd", fn := fun _ => fun
  | [d1, d2] => { results := [.lit (.bool true)], args := [d1, d2] }
  | _ => none }
def iswSafeAndRow : OpenClaim := { program := "ythignlpdeaglaaa", sum := "c2fff96d8cedf62ab713ef1ba9abc5c79d5260806994247df023d2fb105ce1e8", func := "bauta/bautalaw19.IswSafeAnd", spec := "iswSafeAnd", unfollowed := true, recurses := true, apart := false }
def IswSafeAndSaid : Prop := iswSafeAndRow.holds Try.pinned (OpenSpec.ofChange iswSafeAndSpec)

/-- ITS FALSE NEIGHBOUR: 'it returns false'. Refute it at one input. -/
def iswSafeAndWrong : ChangeSpec := { name := "iswSafeAnd", fn := fun _ => fun
  | [d1, d2] => { results := [.lit (.bool false)], args := [d1, d2] }
  | _ => none }
def IswSafeAndWrongFalsely : Prop := iswSafeAndRow.holds Try.pinned (OpenSpec.ofChange iswSafeAndWrong)

/-- 'bautalaw19.IswSafeFresh': WHATEVER THE INPUT: true; the input reads as it did. -/
def iswSafeFreshSpec : ChangeSpec := { name := "iswSafeFresh", fn := fun _ => fun
  | [d1, d2] => { results := [.lit (.bool true)], args := [d1, d2] }
  | _ => none }
def iswSafeFreshRow : OpenClaim := { program := "ythignlpdeaglaaa", sum := "c2fff96d8cedf62ab713ef1ba9abc5c79d5260806994247df023d2fb105ce1e8", func := "bauta/bautalaw19.IswSafeFresh", spec := "iswSafeFresh", unfollowed := true, recurses := true, apart := false }
def IswSafeFreshSaid : Prop := iswSafeFreshRow.holds Try.pinned (OpenSpec.ofChange iswSafeFreshSpec)

/-- ITS FALSE NEIGHBOUR: 'it returns false'. Refute it at one input. -/
def iswSafeFreshWrong : ChangeSpec := { name := "iswSafeFresh", fn := fun _ => fun
  | [d1, d2] => { results := [.lit (.bool false)], args := [d1, d2] }
  | _ => none }
def IswSafeFreshWrongFalsely : Prop := iswSafeFreshRow.holds Try.pinned (OpenSpec.ofChange iswSafeFreshWrong)

/-- 'bautalaw19.IswCodes': WHATEVER THE INPUT: true; the input reads as it did. -/
def iswCodesSpec : ChangeSpec := { name := "iswCodes", fn := fun _ => fun
  | [d] => { results := [.lit (.bool true)], args := [d] }
  | _ => none }
def iswCodesRow : OpenClaim := { program := "ythignlpdeaglaaa", sum := "c2fff96d8cedf62ab713ef1ba9abc5c79d5260806994247df023d2fb105ce1e8", func := "bauta/bautalaw19.IswCodes", spec := "iswCodes", unfollowed := true, recurses := true, apart := false }
def IswCodesSaid : Prop := iswCodesRow.holds Try.pinned (OpenSpec.ofChange iswCodesSpec)

/-- ITS FALSE NEIGHBOUR: 'it returns false'. Refute it at one input. -/
def iswCodesWrong : ChangeSpec := { name := "iswCodes", fn := fun _ => fun
  | [d] => { results := [.lit (.bool false)], args := [d] }
  | _ => none }
def IswCodesWrongFalsely : Prop := iswCodesRow.holds Try.pinned (OpenSpec.ofChange iswCodesWrong)

/-- 'bautalaw19.IswBegins': WHATEVER THE INPUT: true; the input reads as it did. -/
def iswBeginsSpec : ChangeSpec := { name := "iswBegins", fn := fun _ => fun
  | [d1, d2, d3] => { results := [.lit (.bool true)], args := [d1, d2, d3] }
  | _ => none }
def iswBeginsRow : OpenClaim := { program := "ythignlpdeaglaaa", sum := "c2fff96d8cedf62ab713ef1ba9abc5c79d5260806994247df023d2fb105ce1e8", func := "bauta/bautalaw19.IswBegins", spec := "iswBegins", unfollowed := true, recurses := true, apart := false }
def IswBeginsSaid : Prop := iswBeginsRow.holds Try.pinned (OpenSpec.ofChange iswBeginsSpec)

/-- ITS FALSE NEIGHBOUR: 'it returns false'. Refute it at one input. -/
def iswBeginsWrong : ChangeSpec := { name := "iswBegins", fn := fun _ => fun
  | [d1, d2, d3] => { results := [.lit (.bool false)], args := [d1, d2, d3] }
  | _ => none }
def IswBeginsWrongFalsely : Prop := iswBeginsRow.holds Try.pinned (OpenSpec.ofChange iswBeginsWrong)

/-- 'bautalaw19.IswExecs': WHATEVER THE INPUT: true; the input reads as it did. -/
def iswExecsSpec : ChangeSpec := { name := "iswExecs", fn := fun _ => fun
  | [d1, d2, d3] => { results := [.lit (.bool true)], args := [d1, d2, d3] }
  | _ => none }
def iswExecsRow : OpenClaim := { program := "ythignlpdeaglaaa", sum := "c2fff96d8cedf62ab713ef1ba9abc5c79d5260806994247df023d2fb105ce1e8", func := "bauta/bautalaw19.IswExecs", spec := "iswExecs", unfollowed := true, recurses := true, apart := false }
def IswExecsSaid : Prop := iswExecsRow.holds Try.pinned (OpenSpec.ofChange iswExecsSpec)

/-- ITS FALSE NEIGHBOUR: 'it returns false'. Refute it at one input. -/
def iswExecsWrong : ChangeSpec := { name := "iswExecs", fn := fun _ => fun
  | [d1, d2, d3] => { results := [.lit (.bool false)], args := [d1, d2, d3] }
  | _ => none }
def IswExecsWrongFalsely : Prop := iswExecsRow.holds Try.pinned (OpenSpec.ofChange iswExecsWrong)

/-- 'bautalaw19.IswRight': WHATEVER THE INPUT: true; the input reads as it did. -/
def iswRightSpec : ChangeSpec := { name := "iswRight", fn := fun _ => fun
  | [d1, d2, d3] => { results := [.lit (.bool true)], args := [d1, d2, d3] }
  | _ => none }
def iswRightRow : OpenClaim := { program := "ythignlpdeaglaaa", sum := "c2fff96d8cedf62ab713ef1ba9abc5c79d5260806994247df023d2fb105ce1e8", func := "bauta/bautalaw19.IswRight", spec := "iswRight", unfollowed := true, recurses := true, apart := false }
def IswRightSaid : Prop := iswRightRow.holds Try.pinned (OpenSpec.ofChange iswRightSpec)

/-- ITS FALSE NEIGHBOUR: 'it returns false'. Refute it at one input. -/
def iswRightWrong : ChangeSpec := { name := "iswRight", fn := fun _ => fun
  | [d1, d2, d3] => { results := [.lit (.bool false)], args := [d1, d2, d3] }
  | _ => none }
def IswRightWrongFalsely : Prop := iswRightRow.holds Try.pinned (OpenSpec.ofChange iswRightWrong)

/- THE SECOND FORM. 'bulk': how many values and letters a reading holds, each counted each time it is reached (what is shared counts as often as it is met; a slice's spare places count too). A statement '..UptoSaid' is the law's where the arguments, and the package variables that the reading takes, are together of bulk at most 1048576: NARROWER than '..Said'. Prove '..Said' where nothing that the law and all that it calls make is longer than what came in: it says more and counts as full. Else prove '..UptoSaid'. A law counts once. -/
mutual
def uptoBulk {H : Type} : DataW H → Nat
  | .lit (.string bytes) => bytes.length + 1
  | .lit _ => 1
  | .nil => 1
  | .ptr d => uptoBulk d + 1
  | .slice elems spare => uptoBulkAll elems + uptoBulkAll spare + 1
  | .agg parts => uptoBulkAll parts + 1
  | .iface _ d => uptoBulk d + 1
  | .map entries => uptoBulkEntries entries + 1
  | .held _ => 1
def uptoBulkAll {H : Type} : List (DataW H) → Nat
  | [] => 0
  | d :: r => uptoBulk d + uptoBulkAll r
def uptoBulkEntries {H : Type} : List (Lit × DataW H) → Nat
  | [] => 0
  | x :: r => uptoBulkEntry x + uptoBulkEntries r
def uptoBulkEntry {H : Type} : Lit × DataW H → Nat
  | (.string bytes, d) => bytes.length + uptoBulk d + 1
  | (_, d) => uptoBulk d + 1
 end
def uptoSmall : (H : Type) → List (DataW H) → Bool := fun _ ds => decide (uptoBulkAll ds ≤ 1048576)
def OpenSpec.upto (s : _root_.Go.ChangeSpec) : _root_.Go.OpenSpec := { _root_.Go.OpenSpec.ofChange s with cond := some uptoSmall }

/-- 'bautalaw23.ProbeSafes', WHERE WHAT IT READS IS OF BULK AT MOST 1048576: true; the input reads as it did. -/
def probeSafesUptoRow : OpenClaim := { program := "ythignlpdeaglaaa", sum := "c2fff96d8cedf62ab713ef1ba9abc5c79d5260806994247df023d2fb105ce1e8", func := "bauta/bautalaw23.ProbeSafes", spec := "probeSafes", unfollowed := true, recurses := true, apart := false, narrowed := true }
def ProbeSafesUptoSaid : Prop := probeSafesUptoRow.holds Try.pinned (OpenSpec.upto probeSafesSpec)

/-- 'bautalaw23.ProbeLess', WHERE WHAT IT READS IS OF BULK AT MOST 1048576: true; the input reads as it did. -/
def probeLessUptoRow : OpenClaim := { program := "ythignlpdeaglaaa", sum := "c2fff96d8cedf62ab713ef1ba9abc5c79d5260806994247df023d2fb105ce1e8", func := "bauta/bautalaw23.ProbeLess", spec := "probeLess", unfollowed := true, recurses := true, apart := false, narrowed := true }
def ProbeLessUptoSaid : Prop := probeLessUptoRow.holds Try.pinned (OpenSpec.upto probeLessSpec)

/-- 'bautalaw23.ProbeSpreads', WHERE WHAT IT READS IS OF BULK AT MOST 1048576: true; the input reads as it did. -/
def probeSpreadsUptoRow : OpenClaim := { program := "ythignlpdeaglaaa", sum := "c2fff96d8cedf62ab713ef1ba9abc5c79d5260806994247df023d2fb105ce1e8", func := "bauta/bautalaw23.ProbeSpreads", spec := "probeSpreads", unfollowed := true, recurses := true, apart := false, narrowed := true }
def ProbeSpreadsUptoSaid : Prop := probeSpreadsUptoRow.holds Try.pinned (OpenSpec.upto probeSpreadsSpec)

/-- 'bautalaw23.ProbeAll', WHERE WHAT IT READS IS OF BULK AT MOST 1048576: true; the input reads as it did. -/
def probeAllUptoRow : OpenClaim := { program := "ythignlpdeaglaaa", sum := "c2fff96d8cedf62ab713ef1ba9abc5c79d5260806994247df023d2fb105ce1e8", func := "bauta/bautalaw23.ProbeAll", spec := "probeAll", unfollowed := true, recurses := true, apart := false, narrowed := true }
def ProbeAllUptoSaid : Prop := probeAllUptoRow.holds Try.pinned (OpenSpec.upto probeAllSpec)

/-- 'bautalaw23.ProbeFirst', WHERE WHAT IT READS IS OF BULK AT MOST 1048576: true; the input reads as it did. -/
def probeFirstUptoRow : OpenClaim := { program := "ythignlpdeaglaaa", sum := "c2fff96d8cedf62ab713ef1ba9abc5c79d5260806994247df023d2fb105ce1e8", func := "bauta/bautalaw23.ProbeFirst", spec := "probeFirst", unfollowed := true, recurses := true, apart := false, narrowed := true }
def ProbeFirstUptoSaid : Prop := probeFirstUptoRow.holds Try.pinned (OpenSpec.upto probeFirstSpec)

/-- 'bautalaw19.IswSafeAnd', WHERE WHAT IT READS IS OF BULK AT MOST 1048576: true; the input reads as it did. -/
def iswSafeAndUptoRow : OpenClaim := { program := "ythignlpdeaglaaa", sum := "c2fff96d8cedf62ab713ef1ba9abc5c79d5260806994247df023d2fb105ce1e8", func := "bauta/bautalaw19.IswSafeAnd", spec := "iswSafeAnd", unfollowed := true, recurses := true, apart := false, narrowed := true }
def IswSafeAndUptoSaid : Prop := iswSafeAndUptoRow.holds Try.pinned (OpenSpec.upto iswSafeAndSpec)

/-- 'bautalaw19.IswSafeFresh', WHERE WHAT IT READS IS OF BULK AT MOST 1048576: true; the input reads as it did. -/
def iswSafeFreshUptoRow : OpenClaim := { program := "ythignlpdeaglaaa", sum := "c2fff96d8cedf62ab713ef1ba9abc5c79d5260806994247df023d2fb105ce1e8", func := "bauta/bautalaw19.IswSafeFresh", spec := "iswSafeFresh", unfollowed := true, recurses := true, apart := false, narrowed := true }
def IswSafeFreshUptoSaid : Prop := iswSafeFreshUptoRow.holds Try.pinned (OpenSpec.upto iswSafeFreshSpec)

/-- 'bautalaw19.IswCodes', WHERE WHAT IT READS IS OF BULK AT MOST 1048576: true; the input reads as it did. -/
def iswCodesUptoRow : OpenClaim := { program := "ythignlpdeaglaaa", sum := "c2fff96d8cedf62ab713ef1ba9abc5c79d5260806994247df023d2fb105ce1e8", func := "bauta/bautalaw19.IswCodes", spec := "iswCodes", unfollowed := true, recurses := true, apart := false, narrowed := true }
def IswCodesUptoSaid : Prop := iswCodesUptoRow.holds Try.pinned (OpenSpec.upto iswCodesSpec)

/-- 'bautalaw19.IswBegins', WHERE WHAT IT READS IS OF BULK AT MOST 1048576: true; the input reads as it did. -/
def iswBeginsUptoRow : OpenClaim := { program := "ythignlpdeaglaaa", sum := "c2fff96d8cedf62ab713ef1ba9abc5c79d5260806994247df023d2fb105ce1e8", func := "bauta/bautalaw19.IswBegins", spec := "iswBegins", unfollowed := true, recurses := true, apart := false, narrowed := true }
def IswBeginsUptoSaid : Prop := iswBeginsUptoRow.holds Try.pinned (OpenSpec.upto iswBeginsSpec)

/-- 'bautalaw19.IswExecs', WHERE WHAT IT READS IS OF BULK AT MOST 1048576: true; the input reads as it did. -/
def iswExecsUptoRow : OpenClaim := { program := "ythignlpdeaglaaa", sum := "c2fff96d8cedf62ab713ef1ba9abc5c79d5260806994247df023d2fb105ce1e8", func := "bauta/bautalaw19.IswExecs", spec := "iswExecs", unfollowed := true, recurses := true, apart := false, narrowed := true }
def IswExecsUptoSaid : Prop := iswExecsUptoRow.holds Try.pinned (OpenSpec.upto iswExecsSpec)

/-- 'bautalaw19.IswRight', WHERE WHAT IT READS IS OF BULK AT MOST 1048576: true; the input reads as it did. -/
def iswRightUptoRow : OpenClaim := { program := "ythignlpdeaglaaa", sum := "c2fff96d8cedf62ab713ef1ba9abc5c79d5260806994247df023d2fb105ce1e8", func := "bauta/bautalaw19.IswRight", spec := "iswRight", unfollowed := true, recurses := true, apart := false, narrowed := true }
def IswRightUptoSaid : Prop := iswRightUptoRow.holds Try.pinned (OpenSpec.upto iswRightSpec)

end Rows
end Go.Proofs.Ythignlpdeaglaaa
