/-
  No cell of these rows narrows 'for every input' (looked for: loops, veiled, ifaces, maps, wideKeys, modest, calm, conditions, laid).
  DERIVED. THE GIVEN ROWS OF THIS SEAT. 12 by the template 'for every input the law returns true; each argument reads behind the call as it read before'; 0 by the template 'total and deterministic' (their statements: YtkdkciaagekliaaTotals.lean).
  GIVEN WITH THE SEED: the statements are not yours to turn. If you find one false, say at which input.
  Laid BY PROGRAM, IN A SANDBOX (cutbox-rows.mjs): the forced cells as the released guide's own fill.sh prints them over the translation 0dc07652fa743140… (all of the seat's roots in one cut). By AI agents, Wed Nov 11 2026. No macro, syntax, notation, axiom, sorry.
-/
import Derived.Test.YtkdkciaagekliaaChecked
import GoSem.Claim
import GoSem.ClaimJoined
import GoSem.ClaimMapViews
import Derived.JoinedTies
import Derived.KernelRfl
namespace Go.Proofs.Ytkdkciaagekliaa
/- THE CELL 'sum', in the pinned program and in every row, IS THE sha256 OF THE DUMP (.gsa) THAT YtkdkciaagekliaaProg.lean LOADS. Nothing in Lean hashes anything: it is a label: what it is worth is what the hold of that sum in a sandbox is worth. -/
noncomputable def Try.pinned : Pinned := { name := "ytkdkciaagekliaa", sum := "0dc07652fa74314006611392d2bc9786343a25f6a0a28ae4f558fe0fddcc1dff", checked := Try.checked }
namespace Rows
def none {H : Type} : Left H := { results := [], args := [] }

/-- 'bautalaw19.IswSafeAnd': WHATEVER THE INPUT: true; the input reads as it did. -/
def iswSafeAndSpec : ChangeSpec := { name := "iswSafeAnd", fn := fun _ => fun
  | [d1, d2] => { results := [.lit (.bool true)], args := [d1, d2] }
  | _ => none }
def iswSafeAndRow : OpenClaim := { program := "ytkdkciaagekliaa", sum := "0dc07652fa74314006611392d2bc9786343a25f6a0a28ae4f558fe0fddcc1dff", func := "bauta/bautalaw19.IswSafeAnd", spec := "iswSafeAnd", unfollowed := true, recurses := true, apart := false }
def IswSafeAndSaid : Prop := iswSafeAndRow.holds Try.pinned (OpenSpec.ofChange iswSafeAndSpec)

/-- ITS FALSE NEIGHBOUR: 'it returns false'. Refute it at one input. -/
def iswSafeAndWrong : ChangeSpec := { name := "iswSafeAnd", fn := fun _ => fun
  | [d1, d2] => { results := [.lit (.bool false)], args := [d1, d2] }
  | _ => none }
def IswSafeAndWrongFalsely : Prop := iswSafeAndRow.holds Try.pinned (OpenSpec.ofChange iswSafeAndWrong)

/-- 'bautalaw05.MemTape': WHATEVER THE INPUT: true; the input reads as it did. -/
def memTapeSpec : ChangeSpec := { name := "memTape", fn := fun _ => fun
  | [d1, d2] => { results := [.lit (.bool true)], args := [d1, d2] }
  | _ => none }
def memTapeRow : OpenClaim := { program := "ytkdkciaagekliaa", sum := "0dc07652fa74314006611392d2bc9786343a25f6a0a28ae4f558fe0fddcc1dff", func := "bauta/bautalaw05.MemTape", spec := "memTape", apart := false }
def MemTapeSaid : Prop := memTapeRow.holds Try.pinned (OpenSpec.ofChange memTapeSpec)

/-- ITS FALSE NEIGHBOUR: 'it returns false'. Refute it at one input. -/
def memTapeWrong : ChangeSpec := { name := "memTape", fn := fun _ => fun
  | [d1, d2] => { results := [.lit (.bool false)], args := [d1, d2] }
  | _ => none }
def MemTapeWrongFalsely : Prop := memTapeRow.holds Try.pinned (OpenSpec.ofChange memTapeWrong)

/-- 'bautalaw05.MemFlash': WHATEVER THE INPUT: true; the input reads as it did. -/
def memFlashSpec : ChangeSpec := { name := "memFlash", fn := fun _ => fun
  | [d1, d2] => { results := [.lit (.bool true)], args := [d1, d2] }
  | _ => none }
def memFlashRow : OpenClaim := { program := "ytkdkciaagekliaa", sum := "0dc07652fa74314006611392d2bc9786343a25f6a0a28ae4f558fe0fddcc1dff", func := "bauta/bautalaw05.MemFlash", spec := "memFlash", apart := false }
def MemFlashSaid : Prop := memFlashRow.holds Try.pinned (OpenSpec.ofChange memFlashSpec)

/-- ITS FALSE NEIGHBOUR: 'it returns false'. Refute it at one input. -/
def memFlashWrong : ChangeSpec := { name := "memFlash", fn := fun _ => fun
  | [d1, d2] => { results := [.lit (.bool false)], args := [d1, d2] }
  | _ => none }
def MemFlashWrongFalsely : Prop := memFlashRow.holds Try.pinned (OpenSpec.ofChange memFlashWrong)

/-- 'bautalaw19.IswSafeFresh': WHATEVER THE INPUT: true; the input reads as it did. -/
def iswSafeFreshSpec : ChangeSpec := { name := "iswSafeFresh", fn := fun _ => fun
  | [d1, d2] => { results := [.lit (.bool true)], args := [d1, d2] }
  | _ => none }
def iswSafeFreshRow : OpenClaim := { program := "ytkdkciaagekliaa", sum := "0dc07652fa74314006611392d2bc9786343a25f6a0a28ae4f558fe0fddcc1dff", func := "bauta/bautalaw19.IswSafeFresh", spec := "iswSafeFresh", unfollowed := true, recurses := true, apart := false }
def IswSafeFreshSaid : Prop := iswSafeFreshRow.holds Try.pinned (OpenSpec.ofChange iswSafeFreshSpec)

/-- ITS FALSE NEIGHBOUR: 'it returns false'. Refute it at one input. -/
def iswSafeFreshWrong : ChangeSpec := { name := "iswSafeFresh", fn := fun _ => fun
  | [d1, d2] => { results := [.lit (.bool false)], args := [d1, d2] }
  | _ => none }
def IswSafeFreshWrongFalsely : Prop := iswSafeFreshRow.holds Try.pinned (OpenSpec.ofChange iswSafeFreshWrong)

/-- 'bautalaw05.MemActs': WHATEVER THE INPUT: true; the input reads as it did. -/
def memActsSpec : ChangeSpec := { name := "memActs", fn := fun _ => fun
  | [d1, d2, d3] => { results := [.lit (.bool true)], args := [d1, d2, d3] }
  | _ => none }
def memActsRow : OpenClaim := { program := "ytkdkciaagekliaa", sum := "0dc07652fa74314006611392d2bc9786343a25f6a0a28ae4f558fe0fddcc1dff", func := "bauta/bautalaw05.MemActs", spec := "memActs", apart := false }
def MemActsSaid : Prop := memActsRow.holds Try.pinned (OpenSpec.ofChange memActsSpec)

/-- ITS FALSE NEIGHBOUR: 'it returns false'. Refute it at one input. -/
def memActsWrong : ChangeSpec := { name := "memActs", fn := fun _ => fun
  | [d1, d2, d3] => { results := [.lit (.bool false)], args := [d1, d2, d3] }
  | _ => none }
def MemActsWrongFalsely : Prop := memActsRow.holds Try.pinned (OpenSpec.ofChange memActsWrong)

/-- 'bautalaw05.MemWords': WHATEVER THE INPUT: true; the input reads as it did. -/
def memWordsSpec : ChangeSpec := { name := "memWords", fn := fun _ => fun
  | [d1, d2, d3] => { results := [.lit (.bool true)], args := [d1, d2, d3] }
  | _ => none }
def memWordsRow : OpenClaim := { program := "ytkdkciaagekliaa", sum := "0dc07652fa74314006611392d2bc9786343a25f6a0a28ae4f558fe0fddcc1dff", func := "bauta/bautalaw05.MemWords", spec := "memWords", apart := false }
def MemWordsSaid : Prop := memWordsRow.holds Try.pinned (OpenSpec.ofChange memWordsSpec)

/-- ITS FALSE NEIGHBOUR: 'it returns false'. Refute it at one input. -/
def memWordsWrong : ChangeSpec := { name := "memWords", fn := fun _ => fun
  | [d1, d2, d3] => { results := [.lit (.bool false)], args := [d1, d2, d3] }
  | _ => none }
def MemWordsWrongFalsely : Prop := memWordsRow.holds Try.pinned (OpenSpec.ofChange memWordsWrong)

/-- 'bautalaw05.MemOwn': WHATEVER THE INPUT: true; the input reads as it did. -/
def memOwnSpec : ChangeSpec := { name := "memOwn", fn := fun _ => fun
  | [d1, d2, d3] => { results := [.lit (.bool true)], args := [d1, d2, d3] }
  | _ => none }
def memOwnRow : OpenClaim := { program := "ytkdkciaagekliaa", sum := "0dc07652fa74314006611392d2bc9786343a25f6a0a28ae4f558fe0fddcc1dff", func := "bauta/bautalaw05.MemOwn", spec := "memOwn", apart := false }
def MemOwnSaid : Prop := memOwnRow.holds Try.pinned (OpenSpec.ofChange memOwnSpec)

/-- ITS FALSE NEIGHBOUR: 'it returns false'. Refute it at one input. -/
def memOwnWrong : ChangeSpec := { name := "memOwn", fn := fun _ => fun
  | [d1, d2, d3] => { results := [.lit (.bool false)], args := [d1, d2, d3] }
  | _ => none }
def MemOwnWrongFalsely : Prop := memOwnRow.holds Try.pinned (OpenSpec.ofChange memOwnWrong)

/-- 'bautalaw02.ThumbOne': WHATEVER THE INPUT: true; the input reads as it did. -/
def thumbOneSpec : ChangeSpec := { name := "thumbOne", fn := fun _ => fun
  | [d1, d2] => { results := [.lit (.bool true)], args := [d1, d2] }
  | _ => none }
def thumbOneRow : OpenClaim := { program := "ytkdkciaagekliaa", sum := "0dc07652fa74314006611392d2bc9786343a25f6a0a28ae4f558fe0fddcc1dff", func := "bauta/bautalaw02.ThumbOne", spec := "thumbOne", apart := false }
def ThumbOneSaid : Prop := thumbOneRow.holds Try.pinned (OpenSpec.ofChange thumbOneSpec)

/-- ITS FALSE NEIGHBOUR: 'it returns false'. Refute it at one input. -/
def thumbOneWrong : ChangeSpec := { name := "thumbOne", fn := fun _ => fun
  | [d1, d2] => { results := [.lit (.bool false)], args := [d1, d2] }
  | _ => none }
def ThumbOneWrongFalsely : Prop := thumbOneRow.holds Try.pinned (OpenSpec.ofChange thumbOneWrong)

/-- 'bautalaw02.ThumbPuts': WHATEVER THE INPUT: true; the input reads as it did. -/
def thumbPutsSpec : ChangeSpec := { name := "thumbPuts", fn := fun _ => fun
  | [d] => { results := [.lit (.bool true)], args := [d] }
  | _ => none }
def thumbPutsRow : OpenClaim := { program := "ytkdkciaagekliaa", sum := "0dc07652fa74314006611392d2bc9786343a25f6a0a28ae4f558fe0fddcc1dff", func := "bauta/bautalaw02.ThumbPuts", spec := "thumbPuts", apart := false }
def ThumbPutsSaid : Prop := thumbPutsRow.holds Try.pinned (OpenSpec.ofChange thumbPutsSpec)

/-- ITS FALSE NEIGHBOUR: 'it returns false'. Refute it at one input. -/
def thumbPutsWrong : ChangeSpec := { name := "thumbPuts", fn := fun _ => fun
  | [d] => { results := [.lit (.bool false)], args := [d] }
  | _ => none }
def ThumbPutsWrongFalsely : Prop := thumbPutsRow.holds Try.pinned (OpenSpec.ofChange thumbPutsWrong)

/-- 'bautalaw02.ThumbTakes': WHATEVER THE INPUT: true; the input reads as it did. -/
def thumbTakesSpec : ChangeSpec := { name := "thumbTakes", fn := fun _ => fun
  | [d] => { results := [.lit (.bool true)], args := [d] }
  | _ => none }
def thumbTakesRow : OpenClaim := { program := "ytkdkciaagekliaa", sum := "0dc07652fa74314006611392d2bc9786343a25f6a0a28ae4f558fe0fddcc1dff", func := "bauta/bautalaw02.ThumbTakes", spec := "thumbTakes", apart := false }
def ThumbTakesSaid : Prop := thumbTakesRow.holds Try.pinned (OpenSpec.ofChange thumbTakesSpec)

/-- ITS FALSE NEIGHBOUR: 'it returns false'. Refute it at one input. -/
def thumbTakesWrong : ChangeSpec := { name := "thumbTakes", fn := fun _ => fun
  | [d] => { results := [.lit (.bool false)], args := [d] }
  | _ => none }
def ThumbTakesWrongFalsely : Prop := thumbTakesRow.holds Try.pinned (OpenSpec.ofChange thumbTakesWrong)

/-- 'bautalaw19.IswCodes': WHATEVER THE INPUT: true; the input reads as it did. -/
def iswCodesSpec : ChangeSpec := { name := "iswCodes", fn := fun _ => fun
  | [d] => { results := [.lit (.bool true)], args := [d] }
  | _ => none }
def iswCodesRow : OpenClaim := { program := "ytkdkciaagekliaa", sum := "0dc07652fa74314006611392d2bc9786343a25f6a0a28ae4f558fe0fddcc1dff", func := "bauta/bautalaw19.IswCodes", spec := "iswCodes", unfollowed := true, recurses := true, apart := false }
def IswCodesSaid : Prop := iswCodesRow.holds Try.pinned (OpenSpec.ofChange iswCodesSpec)

/-- ITS FALSE NEIGHBOUR: 'it returns false'. Refute it at one input. -/
def iswCodesWrong : ChangeSpec := { name := "iswCodes", fn := fun _ => fun
  | [d] => { results := [.lit (.bool false)], args := [d] }
  | _ => none }
def IswCodesWrongFalsely : Prop := iswCodesRow.holds Try.pinned (OpenSpec.ofChange iswCodesWrong)

/-- 'bautalaw19.IswBegins': WHATEVER THE INPUT: true; the input reads as it did. -/
def iswBeginsSpec : ChangeSpec := { name := "iswBegins", fn := fun _ => fun
  | [d1, d2, d3] => { results := [.lit (.bool true)], args := [d1, d2, d3] }
  | _ => none }
def iswBeginsRow : OpenClaim := { program := "ytkdkciaagekliaa", sum := "0dc07652fa74314006611392d2bc9786343a25f6a0a28ae4f558fe0fddcc1dff", func := "bauta/bautalaw19.IswBegins", spec := "iswBegins", unfollowed := true, recurses := true, apart := false }
def IswBeginsSaid : Prop := iswBeginsRow.holds Try.pinned (OpenSpec.ofChange iswBeginsSpec)

/-- ITS FALSE NEIGHBOUR: 'it returns false'. Refute it at one input. -/
def iswBeginsWrong : ChangeSpec := { name := "iswBegins", fn := fun _ => fun
  | [d1, d2, d3] => { results := [.lit (.bool false)], args := [d1, d2, d3] }
  | _ => none }
def IswBeginsWrongFalsely : Prop := iswBeginsRow.holds Try.pinned (OpenSpec.ofChange iswBeginsWrong)

/- THE SECOND FORM. 'bulk': how many values and letters a reading holds, each counted each time it is reached (what is shared counts as often as it is met; a slice's spare places count too). A statement '..UptoSaid' is the law's where the arguments, and the package variables that the reading takes, are together of bulk at most 1048576: NARROWER than '..Said'. Prove '..Said' where nothing that the law and all that it calls make is longer than what came in: it says more and counts as full. Else prove '..UptoSaid'. A law counts once. -/
mutual
def uptoBulk {H : Type} : DataW H → Nat
  | .lit (.string bytes) => bytes.length + 1
  | .lit _ => 1
  | .nil => 1
  | .ptr d => uptoBulk d + 1
  | .slice elems spare => uptoBulkAll elems + uptoBulkAll spare + 1
  | .agg parts => uptoBulkAll parts + 1
  | .iface _ d => uptoBulk d + 1
  | .map entries => uptoBulkEntries entries + 1
  | .held _ => 1
def uptoBulkAll {H : Type} : List (DataW H) → Nat
  | [] => 0
  | d :: r => uptoBulk d + uptoBulkAll r
def uptoBulkEntries {H : Type} : List (Lit × DataW H) → Nat
  | [] => 0
  | x :: r => uptoBulkEntry x + uptoBulkEntries r
def uptoBulkEntry {H : Type} : Lit × DataW H → Nat
  | (.string bytes, d) => bytes.length + uptoBulk d + 1
  | (_, d) => uptoBulk d + 1
 end
def uptoSmall : (H : Type) → List (DataW H) → Bool := fun _ ds => decide (uptoBulkAll ds ≤ 1048576)
def OpenSpec.upto (s : _root_.Go.ChangeSpec) : _root_.Go.OpenSpec := { _root_.Go.OpenSpec.ofChange s with cond := some uptoSmall }

/-- 'bautalaw19.IswSafeAnd', WHERE WHAT IT READS IS OF BULK AT MOST 1048576: true; the input reads as it did. -/
def iswSafeAndUptoRow : OpenClaim := { program := "ytkdkciaagekliaa", sum := "0dc07652fa74314006611392d2bc9786343a25f6a0a28ae4f558fe0fddcc1dff", func := "bauta/bautalaw19.IswSafeAnd", spec := "iswSafeAnd", unfollowed := true, recurses := true, apart := false, narrowed := true }
def IswSafeAndUptoSaid : Prop := iswSafeAndUptoRow.holds Try.pinned (OpenSpec.upto iswSafeAndSpec)

/-- 'bautalaw05.MemTape', WHERE WHAT IT READS IS OF BULK AT MOST 1048576: true; the input reads as it did. -/
def memTapeUptoRow : OpenClaim := { program := "ytkdkciaagekliaa", sum := "0dc07652fa74314006611392d2bc9786343a25f6a0a28ae4f558fe0fddcc1dff", func := "bauta/bautalaw05.MemTape", spec := "memTape", apart := false, narrowed := true }
def MemTapeUptoSaid : Prop := memTapeUptoRow.holds Try.pinned (OpenSpec.upto memTapeSpec)

/-- 'bautalaw05.MemFlash', WHERE WHAT IT READS IS OF BULK AT MOST 1048576: true; the input reads as it did. -/
def memFlashUptoRow : OpenClaim := { program := "ytkdkciaagekliaa", sum := "0dc07652fa74314006611392d2bc9786343a25f6a0a28ae4f558fe0fddcc1dff", func := "bauta/bautalaw05.MemFlash", spec := "memFlash", apart := false, narrowed := true }
def MemFlashUptoSaid : Prop := memFlashUptoRow.holds Try.pinned (OpenSpec.upto memFlashSpec)

/-- 'bautalaw19.IswSafeFresh', WHERE WHAT IT READS IS OF BULK AT MOST 1048576: true; the input reads as it did. -/
def iswSafeFreshUptoRow : OpenClaim := { program := "ytkdkciaagekliaa", sum := "0dc07652fa74314006611392d2bc9786343a25f6a0a28ae4f558fe0fddcc1dff", func := "bauta/bautalaw19.IswSafeFresh", spec := "iswSafeFresh", unfollowed := true, recurses := true, apart := false, narrowed := true }
def IswSafeFreshUptoSaid : Prop := iswSafeFreshUptoRow.holds Try.pinned (OpenSpec.upto iswSafeFreshSpec)

/-- 'bautalaw05.MemActs', WHERE WHAT IT READS IS OF BULK AT MOST 1048576: true; the input reads as it did. -/
def memActsUptoRow : OpenClaim := { program := "ytkdkciaagekliaa", sum := "0dc07652fa74314006611392d2bc9786343a25f6a0a28ae4f558fe0fddcc1dff", func := "bauta/bautalaw05.MemActs", spec := "memActs", apart := false, narrowed := true }
def MemActsUptoSaid : Prop := memActsUptoRow.holds Try.pinned (OpenSpec.upto memActsSpec)

/-- 'bautalaw05.MemWords', WHERE WHAT IT READS IS OF BULK AT MOST 1048576: true; the input reads as it did. -/
def memWordsUptoRow : OpenClaim := { program := "ytkdkciaagekliaa", sum := "0dc07652fa74314006611392d2bc9786343a25f6a0a28ae4f558fe0fddcc1dff", func := "bauta/bautalaw05.MemWords", spec := "memWords", apart := false, narrowed := true }
def MemWordsUptoSaid : Prop := memWordsUptoRow.holds Try.pinned (OpenSpec.upto memWordsSpec)

/-- 'bautalaw05.MemOwn', WHERE WHAT IT READS IS OF BULK AT MOST 1048576: true; the input reads as it did. -/
def memOwnUptoRow : OpenClaim := { program := "ytkdkciaagekliaa", sum := "0dc07652fa74314006611392d2bc9786343a25f6a0a28ae4f558fe0fddcc1dff", func := "bauta/bautalaw05.MemOwn", spec := "memOwn", apart := false, narrowed := true }
def MemOwnUptoSaid : Prop := memOwnUptoRow.holds Try.pinned (OpenSpec.upto memOwnSpec)

/-- 'bautalaw02.ThumbOne', WHERE WHAT IT READS IS OF BULK AT MOST 1048576: true; the input reads as it did. -/
def thumbOneUptoRow : OpenClaim := { program := "ytkdkciaagekliaa", sum := "0dc07652fa74314006611392d2bc9786343a25f6a0a28ae4f558fe0fddcc1dff", func := "bauta/bautalaw02.ThumbOne", spec := "thumbOne", apart := false, narrowed := true }
def ThumbOneUptoSaid : Prop := thumbOneUptoRow.holds Try.pinned (OpenSpec.upto thumbOneSpec)

/-- 'bautalaw02.ThumbPuts', WHERE WHAT IT READS IS OF BULK AT MOST 1048576: true; the input reads as it did. -/
def thumbPutsUptoRow : OpenClaim := { program := "ytkdkciaagekliaa", sum := "0dc07652fa74314006611392d2bc9786343a25f6a0a28ae4f558fe0fddcc1dff", func := "bauta/bautalaw02.ThumbPuts", spec := "thumbPuts", apart := false, narrowed := true }
def ThumbPutsUptoSaid : Prop := thumbPutsUptoRow.holds Try.pinned (OpenSpec.upto thumbPutsSpec)

/-- 'bautalaw02.ThumbTakes', WHERE WHAT IT READS IS OF BULK AT MOST 1048576: true; the input reads as it did. -/
def thumbTakesUptoRow : OpenClaim := { program := "ytkdkciaagekliaa", sum := "0dc07652fa74314006611392d2bc9786343a25f6a0a28ae4f558fe0fddcc1dff", func := "bauta/bautalaw02.ThumbTakes", spec := "thumbTakes", apart := false, narrowed := true }
def ThumbTakesUptoSaid : Prop := thumbTakesUptoRow.holds Try.pinned (OpenSpec.upto thumbTakesSpec)

/-- 'bautalaw19.IswCodes', WHERE WHAT IT READS IS OF BULK AT MOST 1048576: true; the input reads as it did. -/
def iswCodesUptoRow : OpenClaim := { program := "ytkdkciaagekliaa", sum := "0dc07652fa74314006611392d2bc9786343a25f6a0a28ae4f558fe0fddcc1dff", func := "bauta/bautalaw19.IswCodes", spec := "iswCodes", unfollowed := true, recurses := true, apart := false, narrowed := true }
def IswCodesUptoSaid : Prop := iswCodesUptoRow.holds Try.pinned (OpenSpec.upto iswCodesSpec)

/-- 'bautalaw19.IswBegins', WHERE WHAT IT READS IS OF BULK AT MOST 1048576: true; the input reads as it did. -/
def iswBeginsUptoRow : OpenClaim := { program := "ytkdkciaagekliaa", sum := "0dc07652fa74314006611392d2bc9786343a25f6a0a28ae4f558fe0fddcc1dff", func := "bauta/bautalaw19.IswBegins", spec := "iswBegins", unfollowed := true, recurses := true, apart := false, narrowed := true }
def IswBeginsUptoSaid : Prop := iswBeginsUptoRow.holds Try.pinned (OpenSpec.upto iswBeginsSpec)

end Rows
end Go.Proofs.Ytkdkciaagekliaa
