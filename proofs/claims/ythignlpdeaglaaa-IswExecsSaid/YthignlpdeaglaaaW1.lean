/-
  Words: what the program's functions do.
-/
import Derived.Test.YthignlpdeaglaaaLoF
set_option linter.unusedSimpArgs false
set_option linter.unusedVariables false
namespace Go.Abs
def cw (c : Bool) : BitVec 32 := if c then 1#32 else 0#32
structure Add3 where
  w : BitVec 32
  c : Bool
  v : Bool
structure Sh2 where
  w : BitVec 32
  c : Bool
def shN (kind : Nat) (a : BitVec 32) (n : Nat) : Sh2 :=
  match kind with
  | 0 => ⟨a <<< n, decide (n ≤ 32) && a.getLsbD (32 - n)⟩
  | 1 => ⟨a >>> n, a.getLsbD (n - 1)⟩
  | 2 => ⟨a.sshiftRight (min n 32), a.getLsbD (min n 32 - 1)⟩
  | _ => ⟨a.rotateRight (n % 32), (a.rotateRight (n % 32)).msb⟩
def shiftM (kind : Nat) (a by_ : BitVec 32) (c : Bool) : Sh2 := if by_ = 0#32 then ⟨a, c⟩ else shN kind a by_.toNat
end Go.Abs
