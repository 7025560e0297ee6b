/-
  What the iterator over pairs hands over.
-/
import Derived.Test.YthignlpdeaglaaaT
namespace Go.Abs
def rowAV (d i : Nat) : List (List AV) := (List.range' (i + 1) (d - i)).map fun j => [.int .i64 (i : Nat), .int .i64 (j : Nat)]
def pairsAV (d : Nat) : List (List AV) := (List.range (d + 1)).flatMap (rowAV d)
def isw_pairs_1.spec : SpecI
  | [.ptr b 1 0 0], H => match H.get b with
    | some ⟨_, 1, _, [[.int .i64 d]]⟩ => if 0 ≤ d ∧ d ≤ 6 then some (pairsAV d.toNat) else none
    | _ => none
  | _, _ => none
end Go.Abs
