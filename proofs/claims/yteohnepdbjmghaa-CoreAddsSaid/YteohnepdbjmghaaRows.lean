/-
  No cell of these rows narrows 'for every input' (looked for: loops, veiled, ifaces, maps, wideKeys, modest, calm, conditions, laid).
  DERIVED. THE GIVEN ROWS OF THIS SEAT. 12 by the template 'for every input the law returns true; each argument reads behind the call as it read before'; 0 by the template 'total and deterministic' (their statements: YteohnepdbjmghaaTotals.lean).
  GIVEN WITH THE SEED: the statements are not yours to turn. If you find one false, say at which input.
  Laid BY PROGRAM, IN A SANDBOX (cutbox-rows.mjs): the forced cells as the released guide's own fill.sh prints them over the translation 4a8100780b9c6ecd… (all of the seat's roots in one cut). By AI agents, Wed Nov 11 2026. No macro, syntax, notation, axiom, sorry.
-/
import Derived.Test.YteohnepdbjmghaaChecked
import GoSem.Claim
import GoSem.ClaimJoined
import GoSem.ClaimMapViews
import Derived.JoinedTies
import Derived.KernelRfl
namespace Go.Proofs.Yteohnepdbjmghaa
/- THE CELL 'sum', in the pinned program and in every row, IS THE sha256 OF THE DUMP (.gsa) THAT YteohnepdbjmghaaProg.lean LOADS. Nothing in Lean hashes anything: it is a label: what it is worth is what the hold of that sum in a sandbox is worth. -/
noncomputable def Try.pinned : Pinned := { name := "yteohnepdbjmghaa", sum := "4a8100780b9c6ecdd9347fff9048dd0deea6690d7bcb0a1c9dc1a0997b655d72", checked := Try.checked }
namespace Rows
def none {H : Type} : Left H := { results := [], args := [] }

/-- 'bautalaw02.ThumbRegs': WHATEVER THE INPUT: true; the input reads as it did. -/
def thumbRegsSpec : ChangeSpec := { name := "thumbRegs", fn := fun _ => fun
  | [d] => { results := [.lit (.bool true)], args := [d] }
  | _ => none }
def thumbRegsRow : OpenClaim := { program := "yteohnepdbjmghaa", sum := "4a8100780b9c6ecdd9347fff9048dd0deea6690d7bcb0a1c9dc1a0997b655d72", func := "bauta/bautalaw02.ThumbRegs", spec := "thumbRegs", recurses := true, apart := false }
def ThumbRegsSaid : Prop := thumbRegsRow.holds Try.pinned (OpenSpec.ofChange thumbRegsSpec)

/-- ITS FALSE NEIGHBOUR: 'it returns false'. Refute it at one input. -/
def thumbRegsWrong : ChangeSpec := { name := "thumbRegs", fn := fun _ => fun
  | [d] => { results := [.lit (.bool false)], args := [d] }
  | _ => none }
def ThumbRegsWrongFalsely : Prop := thumbRegsRow.holds Try.pinned (OpenSpec.ofChange thumbRegsWrong)

/-- 'bautalaw02.ThumbRises': WHATEVER THE INPUT: true; the input reads as it did. -/
def thumbRisesSpec : ChangeSpec := { name := "thumbRises", fn := fun _ => fun
  | [d] => { results := [.lit (.bool true)], args := [d] }
  | _ => none }
def thumbRisesRow : OpenClaim := { program := "yteohnepdbjmghaa", sum := "4a8100780b9c6ecdd9347fff9048dd0deea6690d7bcb0a1c9dc1a0997b655d72", func := "bauta/bautalaw02.ThumbRises", spec := "thumbRises", recurses := true, apart := false }
def ThumbRisesSaid : Prop := thumbRisesRow.holds Try.pinned (OpenSpec.ofChange thumbRisesSpec)

/-- ITS FALSE NEIGHBOUR: 'it returns false'. Refute it at one input. -/
def thumbRisesWrong : ChangeSpec := { name := "thumbRises", fn := fun _ => fun
  | [d] => { results := [.lit (.bool false)], args := [d] }
  | _ => none }
def ThumbRisesWrongFalsely : Prop := thumbRisesRow.holds Try.pinned (OpenSpec.ofChange thumbRisesWrong)

/-- 'bautalaw25.EmitSteps': WHATEVER THE INPUT: true; the input reads as it did. -/
def emitStepsSpec : ChangeSpec := { name := "emitSteps", fn := fun _ => fun
  | [d1, d2, d3] => { results := [.lit (.bool true)], args := [d1, d2, d3] }
  | _ => none }
def emitStepsRow : OpenClaim := { program := "yteohnepdbjmghaa", sum := "4a8100780b9c6ecdd9347fff9048dd0deea6690d7bcb0a1c9dc1a0997b655d72", func := "bauta/bautalaw25.EmitSteps", spec := "emitSteps", unfollowed := true, recurses := true, apart := false }
def EmitStepsSaid : Prop := emitStepsRow.holds Try.pinned (OpenSpec.ofChange emitStepsSpec)

/-- ITS FALSE NEIGHBOUR: 'it returns false'. Refute it at one input. -/
def emitStepsWrong : ChangeSpec := { name := "emitSteps", fn := fun _ => fun
  | [d1, d2, d3] => { results := [.lit (.bool false)], args := [d1, d2, d3] }
  | _ => none }
def EmitStepsWrongFalsely : Prop := emitStepsRow.holds Try.pinned (OpenSpec.ofChange emitStepsWrong)

/-- 'bautalaw25.EmitSlots': WHATEVER THE INPUT: true; the input reads as it did. -/
def emitSlotsSpec : ChangeSpec := { name := "emitSlots", fn := fun _ => fun
  | [d] => { results := [.lit (.bool true)], args := [d] }
  | _ => none }
def emitSlotsRow : OpenClaim := { program := "yteohnepdbjmghaa", sum := "4a8100780b9c6ecdd9347fff9048dd0deea6690d7bcb0a1c9dc1a0997b655d72", func := "bauta/bautalaw25.EmitSlots", spec := "emitSlots", unfollowed := true, recurses := true, apart := false }
def EmitSlotsSaid : Prop := emitSlotsRow.holds Try.pinned (OpenSpec.ofChange emitSlotsSpec)

/-- ITS FALSE NEIGHBOUR: 'it returns false'. Refute it at one input. -/
def emitSlotsWrong : ChangeSpec := { name := "emitSlots", fn := fun _ => fun
  | [d] => { results := [.lit (.bool false)], args := [d] }
  | _ => none }
def EmitSlotsWrongFalsely : Prop := emitSlotsRow.holds Try.pinned (OpenSpec.ofChange emitSlotsWrong)

/-- 'bautalaw25.EmitCodes': WHATEVER THE INPUT: true; the input reads as it did. -/
def emitCodesSpec : ChangeSpec := { name := "emitCodes", fn := fun _ => fun
  | [d1, d2] => { results := [.lit (.bool true)], args := [d1, d2] }
  | _ => none }
def emitCodesRow : OpenClaim := { program := "yteohnepdbjmghaa", sum := "4a8100780b9c6ecdd9347fff9048dd0deea6690d7bcb0a1c9dc1a0997b655d72", func := "bauta/bautalaw25.EmitCodes", spec := "emitCodes", unfollowed := true, recurses := true, apart := false }
def EmitCodesSaid : Prop := emitCodesRow.holds Try.pinned (OpenSpec.ofChange emitCodesSpec)

/-- ITS FALSE NEIGHBOUR: 'it returns false'. Refute it at one input. -/
def emitCodesWrong : ChangeSpec := { name := "emitCodes", fn := fun _ => fun
  | [d1, d2] => { results := [.lit (.bool false)], args := [d1, d2] }
  | _ => none }
def EmitCodesWrongFalsely : Prop := emitCodesRow.holds Try.pinned (OpenSpec.ofChange emitCodesWrong)

/-- 'bautalaw25.EmitRuns': WHATEVER THE INPUT: true; the input reads as it did. -/
def emitRunsSpec : ChangeSpec := { name := "emitRuns", fn := fun _ => fun
  | [d1, d2, d3] => { results := [.lit (.bool true)], args := [d1, d2, d3] }
  | _ => none }
def emitRunsRow : OpenClaim := { program := "yteohnepdbjmghaa", sum := "4a8100780b9c6ecdd9347fff9048dd0deea6690d7bcb0a1c9dc1a0997b655d72", func := "bauta/bautalaw25.EmitRuns", spec := "emitRuns", unfollowed := true, recurses := true, apart := false }
def EmitRunsSaid : Prop := emitRunsRow.holds Try.pinned (OpenSpec.ofChange emitRunsSpec)

/-- ITS FALSE NEIGHBOUR: 'it returns false'. Refute it at one input. -/
def emitRunsWrong : ChangeSpec := { name := "emitRuns", fn := fun _ => fun
  | [d1, d2, d3] => { results := [.lit (.bool false)], args := [d1, d2, d3] }
  | _ => none }
def EmitRunsWrongFalsely : Prop := emitRunsRow.holds Try.pinned (OpenSpec.ofChange emitRunsWrong)

/-- 'bautalaw25.EmitRoads': WHATEVER THE INPUT: true; the input reads as it did. -/
def emitRoadsSpec : ChangeSpec := { name := "emitRoads", fn := fun _ => fun
  | [d1, d2, d3] => { results := [.lit (.bool true)], args := [d1, d2, d3] }
  | _ => none }
def emitRoadsRow : OpenClaim := { program := "yteohnepdbjmghaa", sum := "4a8100780b9c6ecdd9347fff9048dd0deea6690d7bcb0a1c9dc1a0997b655d72", func := "bauta/bautalaw25.EmitRoads", spec := "emitRoads", unfollowed := true, recurses := true, apart := false }
def EmitRoadsSaid : Prop := emitRoadsRow.holds Try.pinned (OpenSpec.ofChange emitRoadsSpec)

/-- ITS FALSE NEIGHBOUR: 'it returns false'. Refute it at one input. -/
def emitRoadsWrong : ChangeSpec := { name := "emitRoads", fn := fun _ => fun
  | [d1, d2, d3] => { results := [.lit (.bool false)], args := [d1, d2, d3] }
  | _ => none }
def EmitRoadsWrongFalsely : Prop := emitRoadsRow.holds Try.pinned (OpenSpec.ofChange emitRoadsWrong)

/-- 'bautalaw25.EmitLong': WHATEVER THE INPUT: true; the input reads as it did. -/
def emitLongSpec : ChangeSpec := { name := "emitLong", fn := fun _ => fun
  | [d1, d2] => { results := [.lit (.bool true)], args := [d1, d2] }
  | _ => none }
def emitLongRow : OpenClaim := { program := "yteohnepdbjmghaa", sum := "4a8100780b9c6ecdd9347fff9048dd0deea6690d7bcb0a1c9dc1a0997b655d72", func := "bauta/bautalaw25.EmitLong", spec := "emitLong", unfollowed := true, recurses := true, apart := false }
def EmitLongSaid : Prop := emitLongRow.holds Try.pinned (OpenSpec.ofChange emitLongSpec)

/-- ITS FALSE NEIGHBOUR: 'it returns false'. Refute it at one input. -/
def emitLongWrong : ChangeSpec := { name := "emitLong", fn := fun _ => fun
  | [d1, d2] => { results := [.lit (.bool false)], args := [d1, d2] }
  | _ => none }
def EmitLongWrongFalsely : Prop := emitLongRow.holds Try.pinned (OpenSpec.ofChange emitLongWrong)

/-- 'bautalaw06.CoreAdds': WHATEVER THE INPUT: true; the input reads as it did. -/
def coreAddsSpec : ChangeSpec := { name := "coreAdds", fn := fun _ => fun
  | [d1, d2] => { results := [.lit (.bool true)], args := [d1, d2] }
  | _ => none }
def coreAddsRow : OpenClaim := { program := "yteohnepdbjmghaa", sum := "4a8100780b9c6ecdd9347fff9048dd0deea6690d7bcb0a1c9dc1a0997b655d72", func := "bauta/bautalaw06.CoreAdds", spec := "coreAdds", apart := false }
def CoreAddsSaid : Prop := coreAddsRow.holds Try.pinned (OpenSpec.ofChange coreAddsSpec)

/-- ITS FALSE NEIGHBOUR: 'it returns false'. Refute it at one input. -/
def coreAddsWrong : ChangeSpec := { name := "coreAdds", fn := fun _ => fun
  | [d1, d2] => { results := [.lit (.bool false)], args := [d1, d2] }
  | _ => none }
def CoreAddsWrongFalsely : Prop := coreAddsRow.holds Try.pinned (OpenSpec.ofChange coreAddsWrong)

/-- 'bautalaw35.VerifyWires': WHATEVER THE INPUT: true; the input reads as it did. -/
def verifyWiresSpec : ChangeSpec := { name := "verifyWires", fn := fun _ => fun
  | [d] => { results := [.lit (.bool true)], args := [d] }
  | _ => none }
def verifyWiresRow : OpenClaim := { program := "yteohnepdbjmghaa", sum := "4a8100780b9c6ecdd9347fff9048dd0deea6690d7bcb0a1c9dc1a0997b655d72", func := "bauta/bautalaw35.VerifyWires", spec := "verifyWires", unfollowed := true, recurses := true, apart := false }
def VerifyWiresSaid : Prop := verifyWiresRow.holds Try.pinned (OpenSpec.ofChange verifyWiresSpec)

/-- ITS FALSE NEIGHBOUR: 'it returns false'. Refute it at one input. -/
def verifyWiresWrong : ChangeSpec := { name := "verifyWires", fn := fun _ => fun
  | [d] => { results := [.lit (.bool false)], args := [d] }
  | _ => none }
def VerifyWiresWrongFalsely : Prop := verifyWiresRow.holds Try.pinned (OpenSpec.ofChange verifyWiresWrong)

/-- 'bautalaw35.VerifyValues': WHATEVER THE INPUT: true; the input reads as it did. -/
def verifyValuesSpec : ChangeSpec := { name := "verifyValues", fn := fun _ => fun
  | [d1, d2] => { results := [.lit (.bool true)], args := [d1, d2] }
  | _ => none }
def verifyValuesRow : OpenClaim := { program := "yteohnepdbjmghaa", sum := "4a8100780b9c6ecdd9347fff9048dd0deea6690d7bcb0a1c9dc1a0997b655d72", func := "bauta/bautalaw35.VerifyValues", spec := "verifyValues", unfollowed := true, recurses := true, apart := false }
def VerifyValuesSaid : Prop := verifyValuesRow.holds Try.pinned (OpenSpec.ofChange verifyValuesSpec)

/-- ITS FALSE NEIGHBOUR: 'it returns false'. Refute it at one input. -/
def verifyValuesWrong : ChangeSpec := { name := "verifyValues", fn := fun _ => fun
  | [d1, d2] => { results := [.lit (.bool false)], args := [d1, d2] }
  | _ => none }
def VerifyValuesWrongFalsely : Prop := verifyValuesRow.holds Try.pinned (OpenSpec.ofChange verifyValuesWrong)

/-- 'bautalaw35.VerifySound': WHATEVER THE INPUT: true; the input reads as it did. -/
def verifySoundSpec : ChangeSpec := { name := "verifySound", fn := fun _ => fun
  | [d1, d2] => { results := [.lit (.bool true)], args := [d1, d2] }
  | _ => none }
def verifySoundRow : OpenClaim := { program := "yteohnepdbjmghaa", sum := "4a8100780b9c6ecdd9347fff9048dd0deea6690d7bcb0a1c9dc1a0997b655d72", func := "bauta/bautalaw35.VerifySound", spec := "verifySound", unfollowed := true, recurses := true, apart := false }
def VerifySoundSaid : Prop := verifySoundRow.holds Try.pinned (OpenSpec.ofChange verifySoundSpec)

/-- ITS FALSE NEIGHBOUR: 'it returns false'. Refute it at one input. -/
def verifySoundWrong : ChangeSpec := { name := "verifySound", fn := fun _ => fun
  | [d1, d2] => { results := [.lit (.bool false)], args := [d1, d2] }
  | _ => none }
def VerifySoundWrongFalsely : Prop := verifySoundRow.holds Try.pinned (OpenSpec.ofChange verifySoundWrong)

/- THE SECOND FORM. 'bulk': how many values and letters a reading holds, each counted each time it is reached (what is shared counts as often as it is met; a slice's spare places count too). A statement '..UptoSaid' is the law's where the arguments, and the package variables that the reading takes, are together of bulk at most 1048576: NARROWER than '..Said'. Prove '..Said' where nothing that the law and all that it calls make is longer than what came in: it says more and counts as full. Else prove '..UptoSaid'. A law counts once. -/
mutual
def uptoBulk {H : Type} : DataW H → Nat
  | .lit (.string bytes) => bytes.length + 1
  | .lit _ => 1
  | .nil => 1
  | .ptr d => uptoBulk d + 1
  | .slice elems spare => uptoBulkAll elems + uptoBulkAll spare + 1
  | .agg parts => uptoBulkAll parts + 1
  | .iface _ d => uptoBulk d + 1
  | .map entries => uptoBulkEntries entries + 1
  | .held _ => 1
def uptoBulkAll {H : Type} : List (DataW H) → Nat
  | [] => 0
  | d :: r => uptoBulk d + uptoBulkAll r
def uptoBulkEntries {H : Type} : List (Lit × DataW H) → Nat
  | [] => 0
  | x :: r => uptoBulkEntry x + uptoBulkEntries r
def uptoBulkEntry {H : Type} : Lit × DataW H → Nat
  | (.string bytes, d) => bytes.length + uptoBulk d + 1
  | (_, d) => uptoBulk d + 1
 end
def uptoSmall : (H : Type) → List (DataW H) → Bool := fun _ ds => decide (uptoBulkAll ds ≤ 1048576)
def OpenSpec.upto (s : _root_.Go.ChangeSpec) : _root_.Go.OpenSpec := { _root_.Go.OpenSpec.ofChange s with cond := some uptoSmall }

/-- 'bautalaw02.ThumbRegs', WHERE WHAT IT READS IS OF BULK AT MOST 1048576: true; the input reads as it did. -/
def thumbRegsUptoRow : OpenClaim := { program := "yteohnepdbjmghaa", sum := "4a8100780b9c6ecdd9347fff9048dd0deea6690d7bcb0a1c9dc1a0997b655d72", func := "bauta/bautalaw02.ThumbRegs", spec := "thumbRegs", recurses := true, apart := false, narrowed := true }
def ThumbRegsUptoSaid : Prop := thumbRegsUptoRow.holds Try.pinned (OpenSpec.upto thumbRegsSpec)

/-- 'bautalaw02.ThumbRises', WHERE WHAT IT READS IS OF BULK AT MOST 1048576: true; the input reads as it did. -/
def thumbRisesUptoRow : OpenClaim := { program := "yteohnepdbjmghaa", sum := "4a8100780b9c6ecdd9347fff9048dd0deea6690d7bcb0a1c9dc1a0997b655d72", func := "bauta/bautalaw02.ThumbRises", spec := "thumbRises", recurses := true, apart := false, narrowed := true }
def ThumbRisesUptoSaid : Prop := thumbRisesUptoRow.holds Try.pinned (OpenSpec.upto thumbRisesSpec)

/-- 'bautalaw25.EmitSteps', WHERE WHAT IT READS IS OF BULK AT MOST 1048576: true; the input reads as it did. -/
def emitStepsUptoRow : OpenClaim := { program := "yteohnepdbjmghaa", sum := "4a8100780b9c6ecdd9347fff9048dd0deea6690d7bcb0a1c9dc1a0997b655d72", func := "bauta/bautalaw25.EmitSteps", spec := "emitSteps", unfollowed := true, recurses := true, apart := false, narrowed := true }
def EmitStepsUptoSaid : Prop := emitStepsUptoRow.holds Try.pinned (OpenSpec.upto emitStepsSpec)

/-- 'bautalaw25.EmitSlots', WHERE WHAT IT READS IS OF BULK AT MOST 1048576: true; the input reads as it did. -/
def emitSlotsUptoRow : OpenClaim := { program := "yteohnepdbjmghaa", sum := "4a8100780b9c6ecdd9347fff9048dd0deea6690d7bcb0a1c9dc1a0997b655d72", func := "bauta/bautalaw25.EmitSlots", spec := "emitSlots", unfollowed := true, recurses := true, apart := false, narrowed := true }
def EmitSlotsUptoSaid : Prop := emitSlotsUptoRow.holds Try.pinned (OpenSpec.upto emitSlotsSpec)

/-- 'bautalaw25.EmitCodes', WHERE WHAT IT READS IS OF BULK AT MOST 1048576: true; the input reads as it did. -/
def emitCodesUptoRow : OpenClaim := { program := "yteohnepdbjmghaa", sum := "4a8100780b9c6ecdd9347fff9048dd0deea6690d7bcb0a1c9dc1a0997b655d72", func := "bauta/bautalaw25.EmitCodes", spec := "emitCodes", unfollowed := true, recurses := true, apart := false, narrowed := true }
def EmitCodesUptoSaid : Prop := emitCodesUptoRow.holds Try.pinned (OpenSpec.upto emitCodesSpec)

/-- 'bautalaw25.EmitRuns', WHERE WHAT IT READS IS OF BULK AT MOST 1048576: true; the input reads as it did. -/
def emitRunsUptoRow : OpenClaim := { program := "yteohnepdbjmghaa", sum := "4a8100780b9c6ecdd9347fff9048dd0deea6690d7bcb0a1c9dc1a0997b655d72", func := "bauta/bautalaw25.EmitRuns", spec := "emitRuns", unfollowed := true, recurses := true, apart := false, narrowed := true }
def EmitRunsUptoSaid : Prop := emitRunsUptoRow.holds Try.pinned (OpenSpec.upto emitRunsSpec)

/-- 'bautalaw25.EmitRoads', WHERE WHAT IT READS IS OF BULK AT MOST 1048576: true; the input reads as it did. -/
def emitRoadsUptoRow : OpenClaim := { program := "yteohnepdbjmghaa", sum := "4a8100780b9c6ecdd9347fff9048dd0deea6690d7bcb0a1c9dc1a0997b655d72", func := "bauta/bautalaw25.EmitRoads", spec := "emitRoads", unfollowed := true, recurses := true, apart := false, narrowed := true }
def EmitRoadsUptoSaid : Prop := emitRoadsUptoRow.holds Try.pinned (OpenSpec.upto emitRoadsSpec)

/-- 'bautalaw25.EmitLong', WHERE WHAT IT READS IS OF BULK AT MOST 1048576: true; the input reads as it did. -/
def emitLongUptoRow : OpenClaim := { program := "yteohnepdbjmghaa", sum := "4a8100780b9c6ecdd9347fff9048dd0deea6690d7bcb0a1c9dc1a0997b655d72", func := "bauta/bautalaw25.EmitLong", spec := "emitLong", unfollowed := true, recurses := true, apart := false, narrowed := true }
def EmitLongUptoSaid : Prop := emitLongUptoRow.holds Try.pinned (OpenSpec.upto emitLongSpec)

/-- 'bautalaw06.CoreAdds', WHERE WHAT IT READS IS OF BULK AT MOST 1048576: true; the input reads as it did. -/
def coreAddsUptoRow : OpenClaim := { program := "yteohnepdbjmghaa", sum := "4a8100780b9c6ecdd9347fff9048dd0deea6690d7bcb0a1c9dc1a0997b655d72", func := "bauta/bautalaw06.CoreAdds", spec := "coreAdds", apart := false, narrowed := true }
def CoreAddsUptoSaid : Prop := coreAddsUptoRow.holds Try.pinned (OpenSpec.upto coreAddsSpec)

/-- 'bautalaw35.VerifyWires', WHERE WHAT IT READS IS OF BULK AT MOST 1048576: true; the input reads as it did. -/
def verifyWiresUptoRow : OpenClaim := { program := "yteohnepdbjmghaa", sum := "4a8100780b9c6ecdd9347fff9048dd0deea6690d7bcb0a1c9dc1a0997b655d72", func := "bauta/bautalaw35.VerifyWires", spec := "verifyWires", unfollowed := true, recurses := true, apart := false, narrowed := true }
def VerifyWiresUptoSaid : Prop := verifyWiresUptoRow.holds Try.pinned (OpenSpec.upto verifyWiresSpec)

/-- 'bautalaw35.VerifyValues', WHERE WHAT IT READS IS OF BULK AT MOST 1048576: true; the input reads as it did. -/
def verifyValuesUptoRow : OpenClaim := { program := "yteohnepdbjmghaa", sum := "4a8100780b9c6ecdd9347fff9048dd0deea6690d7bcb0a1c9dc1a0997b655d72", func := "bauta/bautalaw35.VerifyValues", spec := "verifyValues", unfollowed := true, recurses := true, apart := false, narrowed := true }
def VerifyValuesUptoSaid : Prop := verifyValuesUptoRow.holds Try.pinned (OpenSpec.upto verifyValuesSpec)

/-- 'bautalaw35.VerifySound', WHERE WHAT IT READS IS OF BULK AT MOST 1048576: true; the input reads as it did. -/
def verifySoundUptoRow : OpenClaim := { program := "yteohnepdbjmghaa", sum := "4a8100780b9c6ecdd9347fff9048dd0deea6690d7bcb0a1c9dc1a0997b655d72", func := "bauta/bautalaw35.VerifySound", spec := "verifySound", unfollowed := true, recurses := true, apart := false, narrowed := true }
def VerifySoundUptoSaid : Prop := verifySoundUptoRow.holds Try.pinned (OpenSpec.upto verifySoundSpec)

end Rows
end Go.Proofs.Yteohnepdbjmghaa
