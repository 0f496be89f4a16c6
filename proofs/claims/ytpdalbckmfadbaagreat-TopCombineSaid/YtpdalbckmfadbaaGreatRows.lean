/-
  No cell of these rows narrows 'for every input' (looked for: loops, veiled, ifaces, maps, wideKeys, modest, calm, conditions, laid).
  DERIVED. THE GIVEN ROWS OF THIS SEAT. 3 by the template 'for every input the law returns true; each argument reads behind the call as it read before'; 0 by the template 'total and deterministic' (their statements: YtpdalbckmfadbaaGreatTotals.lean).
  GIVEN WITH THE SEED: the statements are not yours to turn. If you find one false, say at which input.
  Laid BY PROGRAM, IN A SANDBOX (cutbox-rows.mjs): the forced cells as the released guide's own fill.sh prints them over the translation e2d03aefd6034322… (all of the seat's roots in one cut). By AI agents, Wed Nov 11 2026. No macro, syntax, notation, axiom, sorry.
-/
import Derived.Test.YtpdalbckmfadbaaGreatChecked
import GoSem.Claim
import GoSem.ClaimJoined
import GoSem.ClaimMapViews
import Derived.JoinedTies
import Derived.KernelRfl
namespace Go.Proofs.YtpdalbckmfadbaaGreat
/- THE CELL 'sum', in the pinned program and in every row, IS THE sha256 OF THE DUMP (.gsa) THAT YtpdalbckmfadbaaGreatProg.lean LOADS. Nothing in Lean hashes anything: it is a label: what it is worth is what the hold of that sum in a sandbox is worth. -/
noncomputable def Tryz.pinned : Pinned := { name := "ytpdalbckmfadbaagreat", sum := "e2d03aefd603432254e59f3d91eae18aeca3652547f571e9a4c7d5bf56550d65", checked := Tryz.checked }
namespace Rows
def none {H : Type} : Left H := { results := [], args := [] }

/-- 'userplanetop.TopCombine': WHATEVER THE INPUT: true; the input reads as it did. -/
def topCombineSpec : ChangeSpec := { name := "topCombine", fn := fun _ => fun
  | [d1, d2, d3, d4, d5, d6, d7] => { results := [.lit (.bool true)], args := [d1, d2, d3, d4, d5, d6, d7] }
  | _ => none }
def topCombineRow : OpenClaim := { program := "ytpdalbckmfadbaagreat", sum := "e2d03aefd603432254e59f3d91eae18aeca3652547f571e9a4c7d5bf56550d65", func := "userplane/userplanetop.TopCombine", spec := "topCombine", unfollowed := true, recurses := true, apart := false }
def TopCombineSaid : Prop := topCombineRow.holds Tryz.pinned (OpenSpec.ofChange topCombineSpec)

/-- ITS FALSE NEIGHBOUR: 'it returns false'. Refute it at one input. -/
def topCombineWrong : ChangeSpec := { name := "topCombine", fn := fun _ => fun
  | [d1, d2, d3, d4, d5, d6, d7] => { results := [.lit (.bool false)], args := [d1, d2, d3, d4, d5, d6, d7] }
  | _ => none }
def TopCombineWrongFalsely : Prop := topCombineRow.holds Tryz.pinned (OpenSpec.ofChange topCombineWrong)

/-- 'userplanelaw14.IterateDecodes': WHATEVER THE INPUT: true; the input reads as it did. -/
def iterateDecodesSpec : ChangeSpec := { name := "iterateDecodes", fn := fun _ => fun
  | [d1, d2, d3] => { results := [.lit (.bool true)], args := [d1, d2, d3] }
  | _ => none }
def iterateDecodesRow : OpenClaim := { program := "ytpdalbckmfadbaagreat", sum := "e2d03aefd603432254e59f3d91eae18aeca3652547f571e9a4c7d5bf56550d65", func := "userplane/userplanelaw14.IterateDecodes", spec := "iterateDecodes", unfollowed := true, recurses := true, apart := false }
def IterateDecodesSaid : Prop := iterateDecodesRow.holds Tryz.pinned (OpenSpec.ofChange iterateDecodesSpec)

/-- ITS FALSE NEIGHBOUR: 'it returns false'. Refute it at one input. -/
def iterateDecodesWrong : ChangeSpec := { name := "iterateDecodes", fn := fun _ => fun
  | [d1, d2, d3] => { results := [.lit (.bool false)], args := [d1, d2, d3] }
  | _ => none }
def IterateDecodesWrongFalsely : Prop := iterateDecodesRow.holds Tryz.pinned (OpenSpec.ofChange iterateDecodesWrong)

/-- 'userplanelaw14.IterateHalves': WHATEVER THE INPUT: true; the input reads as it did. -/
def iterateHalvesSpec : ChangeSpec := { name := "iterateHalves", fn := fun _ => fun
  | [d1, d2, d3, d4] => { results := [.lit (.bool true)], args := [d1, d2, d3, d4] }
  | _ => none }
def iterateHalvesRow : OpenClaim := { program := "ytpdalbckmfadbaagreat", sum := "e2d03aefd603432254e59f3d91eae18aeca3652547f571e9a4c7d5bf56550d65", func := "userplane/userplanelaw14.IterateHalves", spec := "iterateHalves", unfollowed := true, recurses := true, apart := false }
def IterateHalvesSaid : Prop := iterateHalvesRow.holds Tryz.pinned (OpenSpec.ofChange iterateHalvesSpec)

/-- ITS FALSE NEIGHBOUR: 'it returns false'. Refute it at one input. -/
def iterateHalvesWrong : ChangeSpec := { name := "iterateHalves", fn := fun _ => fun
  | [d1, d2, d3, d4] => { results := [.lit (.bool false)], args := [d1, d2, d3, d4] }
  | _ => none }
def IterateHalvesWrongFalsely : Prop := iterateHalvesRow.holds Tryz.pinned (OpenSpec.ofChange iterateHalvesWrong)

/- THE SECOND FORM. 'bulk': how many values and letters a reading holds, each counted each time it is reached (what is shared counts as often as it is met; a slice's spare places count too). A statement '..UptoSaid' is the law's where the arguments, and the package variables that the reading takes, are together of bulk at most 1048576: NARROWER than '..Said'. Prove '..Said' where nothing that the law and all that it calls make is longer than what came in: it says more and counts as full. Else prove '..UptoSaid'. A law counts once. -/
mutual
def uptoBulk {H : Type} : DataW H → Nat
  | .lit (.string bytes) => bytes.length + 1
  | .lit _ => 1
  | .nil => 1
  | .ptr d => uptoBulk d + 1
  | .slice elems spare => uptoBulkAll elems + uptoBulkAll spare + 1
  | .agg parts => uptoBulkAll parts + 1
  | .iface _ d => uptoBulk d + 1
  | .map entries => uptoBulkEntries entries + 1
  | .held _ => 1
def uptoBulkAll {H : Type} : List (DataW H) → Nat
  | [] => 0
  | d :: r => uptoBulk d + uptoBulkAll r
def uptoBulkEntries {H : Type} : List (Lit × DataW H) → Nat
  | [] => 0
  | x :: r => uptoBulkEntry x + uptoBulkEntries r
def uptoBulkEntry {H : Type} : Lit × DataW H → Nat
  | (.string bytes, d) => bytes.length + uptoBulk d + 1
  | (_, d) => uptoBulk d + 1
 end
def uptoSmall : (H : Type) → List (DataW H) → Bool := fun _ ds => decide (uptoBulkAll ds ≤ 1048576)
def OpenSpec.upto (s : _root_.Go.ChangeSpec) : _root_.Go.OpenSpec := { _root_.Go.OpenSpec.ofChange s with cond := some uptoSmall }

/-- 'userplanetop.TopCombine', WHERE WHAT IT READS IS OF BULK AT MOST 1048576: true; the input reads as it did. -/
def topCombineUptoRow : OpenClaim := { program := "ytpdalbckmfadbaagreat", sum := "e2d03aefd603432254e59f3d91eae18aeca3652547f571e9a4c7d5bf56550d65", func := "userplane/userplanetop.TopCombine", spec := "topCombine", unfollowed := true, recurses := true, apart := false, narrowed := true }
def TopCombineUptoSaid : Prop := topCombineUptoRow.holds Tryz.pinned (OpenSpec.upto topCombineSpec)

/-- 'userplanelaw14.IterateDecodes', WHERE WHAT IT READS IS OF BULK AT MOST 1048576: true; the input reads as it did. -/
def iterateDecodesUptoRow : OpenClaim := { program := "ytpdalbckmfadbaagreat", sum := "e2d03aefd603432254e59f3d91eae18aeca3652547f571e9a4c7d5bf56550d65", func := "userplane/userplanelaw14.IterateDecodes", spec := "iterateDecodes", unfollowed := true, recurses := true, apart := false, narrowed := true }
def IterateDecodesUptoSaid : Prop := iterateDecodesUptoRow.holds Tryz.pinned (OpenSpec.upto iterateDecodesSpec)

/-- 'userplanelaw14.IterateHalves', WHERE WHAT IT READS IS OF BULK AT MOST 1048576: true; the input reads as it did. -/
def iterateHalvesUptoRow : OpenClaim := { program := "ytpdalbckmfadbaagreat", sum := "e2d03aefd603432254e59f3d91eae18aeca3652547f571e9a4c7d5bf56550d65", func := "userplane/userplanelaw14.IterateHalves", spec := "iterateHalves", unfollowed := true, recurses := true, apart := false, narrowed := true }
def IterateHalvesUptoSaid : Prop := iterateHalvesUptoRow.holds Tryz.pinned (OpenSpec.upto iterateHalvesSpec)

end Rows
end Go.Proofs.YtpdalbckmfadbaaGreat
