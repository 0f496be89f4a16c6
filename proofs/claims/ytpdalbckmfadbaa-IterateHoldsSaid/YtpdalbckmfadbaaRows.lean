/-
  No cell of these rows narrows 'for every input' (looked for: loops, veiled, ifaces, maps, wideKeys, modest, calm, conditions, laid).
  DERIVED. THE GIVEN ROWS OF THIS SEAT. 3 by the template 'for every input the law returns true; each argument reads behind the call as it read before'; 0 by the template 'total and deterministic' (their statements: YtpdalbckmfadbaaTotals.lean).
  GIVEN WITH THE SEED: the statements are not yours to turn. If you find one false, say at which input.
  Laid BY PROGRAM, IN A SANDBOX (cutbox-rows.mjs): the forced cells as the released guide's own fill.sh prints them over the translation 720cc8128f5c3a67… (all of the seat's roots in one cut). By AI agents, Wed Nov 11 2026. No macro, syntax, notation, axiom, sorry.
-/
import Derived.Test.YtpdalbckmfadbaaChecked
import GoSem.Claim
import GoSem.ClaimJoined
import GoSem.ClaimMapViews
import Derived.JoinedTies
import Derived.KernelRfl
namespace Go.Proofs.Ytpdalbckmfadbaa
/- THE CELL 'sum', in the pinned program and in every row, IS THE sha256 OF THE DUMP (.gsa) THAT YtpdalbckmfadbaaProg.lean LOADS. Nothing in Lean hashes anything: it is a label: what it is worth is what the hold of that sum in a sandbox is worth. -/
noncomputable def Try.pinned : Pinned := { name := "ytpdalbckmfadbaa", sum := "720cc8128f5c3a6758fbb911ac7d378bd4764985566cae8e70e68e9c85d72f6d", checked := Try.checked }
namespace Rows
def none {H : Type} : Left H := { results := [], args := [] }

/-- 'userplanelaw14.IterateMore': WHATEVER THE INPUT: true; the input reads as it did. -/
def iterateMoreSpec : ChangeSpec := { name := "iterateMore", fn := fun _ => fun
  | [d1, d2, d3] => { results := [.lit (.bool true)], args := [d1, d2, d3] }
  | _ => none }
def iterateMoreRow : OpenClaim := { program := "ytpdalbckmfadbaa", sum := "720cc8128f5c3a6758fbb911ac7d378bd4764985566cae8e70e68e9c85d72f6d", func := "userplane/userplanelaw14.IterateMore", spec := "iterateMore", unfollowed := true, recurses := true, apart := false }
def IterateMoreSaid : Prop := iterateMoreRow.holds Try.pinned (OpenSpec.ofChange iterateMoreSpec)

/-- ITS FALSE NEIGHBOUR: 'it returns false'. Refute it at one input. -/
def iterateMoreWrong : ChangeSpec := { name := "iterateMore", fn := fun _ => fun
  | [d1, d2, d3] => { results := [.lit (.bool false)], args := [d1, d2, d3] }
  | _ => none }
def IterateMoreWrongFalsely : Prop := iterateMoreRow.holds Try.pinned (OpenSpec.ofChange iterateMoreWrong)

/-- 'userplanelaw14.IterateClean': WHATEVER THE INPUT: true; the input reads as it did. -/
def iterateCleanSpec : ChangeSpec := { name := "iterateClean", fn := fun _ => fun
  | [d1, d2, d3, d4] => { results := [.lit (.bool true)], args := [d1, d2, d3, d4] }
  | _ => none }
def iterateCleanRow : OpenClaim := { program := "ytpdalbckmfadbaa", sum := "720cc8128f5c3a6758fbb911ac7d378bd4764985566cae8e70e68e9c85d72f6d", func := "userplane/userplanelaw14.IterateClean", spec := "iterateClean", unfollowed := true, recurses := true, apart := false }
def IterateCleanSaid : Prop := iterateCleanRow.holds Try.pinned (OpenSpec.ofChange iterateCleanSpec)

/-- ITS FALSE NEIGHBOUR: 'it returns false'. Refute it at one input. -/
def iterateCleanWrong : ChangeSpec := { name := "iterateClean", fn := fun _ => fun
  | [d1, d2, d3, d4] => { results := [.lit (.bool false)], args := [d1, d2, d3, d4] }
  | _ => none }
def IterateCleanWrongFalsely : Prop := iterateCleanRow.holds Try.pinned (OpenSpec.ofChange iterateCleanWrong)

/-- 'userplanelaw14.IterateHolds': WHATEVER THE INPUT: true; the input reads as it did. -/
def iterateHoldsSpec : ChangeSpec := { name := "iterateHolds", fn := fun _ => fun
  | [d1, d2, d3, d4, d5, d6] => { results := [.lit (.bool true)], args := [d1, d2, d3, d4, d5, d6] }
  | _ => none }
def iterateHoldsRow : OpenClaim := { program := "ytpdalbckmfadbaa", sum := "720cc8128f5c3a6758fbb911ac7d378bd4764985566cae8e70e68e9c85d72f6d", func := "userplane/userplanelaw14.IterateHolds", spec := "iterateHolds", unfollowed := true, recurses := true, apart := false }
def IterateHoldsSaid : Prop := iterateHoldsRow.holds Try.pinned (OpenSpec.ofChange iterateHoldsSpec)

/-- ITS FALSE NEIGHBOUR: 'it returns false'. Refute it at one input. -/
def iterateHoldsWrong : ChangeSpec := { name := "iterateHolds", fn := fun _ => fun
  | [d1, d2, d3, d4, d5, d6] => { results := [.lit (.bool false)], args := [d1, d2, d3, d4, d5, d6] }
  | _ => none }
def IterateHoldsWrongFalsely : Prop := iterateHoldsRow.holds Try.pinned (OpenSpec.ofChange iterateHoldsWrong)

/- THE SECOND FORM. 'bulk': how many values and letters a reading holds, each counted each time it is reached (what is shared counts as often as it is met; a slice's spare places count too). A statement '..UptoSaid' is the law's where the arguments, and the package variables that the reading takes, are together of bulk at most 1048576: NARROWER than '..Said'. Prove '..Said' where nothing that the law and all that it calls make is longer than what came in: it says more and counts as full. Else prove '..UptoSaid'. A law counts once. -/
mutual
def uptoBulk {H : Type} : DataW H → Nat
  | .lit (.string bytes) => bytes.length + 1
  | .lit _ => 1
  | .nil => 1
  | .ptr d => uptoBulk d + 1
  | .slice elems spare => uptoBulkAll elems + uptoBulkAll spare + 1
  | .agg parts => uptoBulkAll parts + 1
  | .iface _ d => uptoBulk d + 1
  | .map entries => uptoBulkEntries entries + 1
  | .held _ => 1
def uptoBulkAll {H : Type} : List (DataW H) → Nat
  | [] => 0
  | d :: r => uptoBulk d + uptoBulkAll r
def uptoBulkEntries {H : Type} : List (Lit × DataW H) → Nat
  | [] => 0
  | x :: r => uptoBulkEntry x + uptoBulkEntries r
def uptoBulkEntry {H : Type} : Lit × DataW H → Nat
  | (.string bytes, d) => bytes.length + uptoBulk d + 1
  | (_, d) => uptoBulk d + 1
 end
def uptoSmall : (H : Type) → List (DataW H) → Bool := fun _ ds => decide (uptoBulkAll ds ≤ 1048576)
def OpenSpec.upto (s : _root_.Go.ChangeSpec) : _root_.Go.OpenSpec := { _root_.Go.OpenSpec.ofChange s with cond := some uptoSmall }

/-- 'userplanelaw14.IterateMore', WHERE WHAT IT READS IS OF BULK AT MOST 1048576: true; the input reads as it did. -/
def iterateMoreUptoRow : OpenClaim := { program := "ytpdalbckmfadbaa", sum := "720cc8128f5c3a6758fbb911ac7d378bd4764985566cae8e70e68e9c85d72f6d", func := "userplane/userplanelaw14.IterateMore", spec := "iterateMore", unfollowed := true, recurses := true, apart := false, narrowed := true }
def IterateMoreUptoSaid : Prop := iterateMoreUptoRow.holds Try.pinned (OpenSpec.upto iterateMoreSpec)

/-- 'userplanelaw14.IterateClean', WHERE WHAT IT READS IS OF BULK AT MOST 1048576: true; the input reads as it did. -/
def iterateCleanUptoRow : OpenClaim := { program := "ytpdalbckmfadbaa", sum := "720cc8128f5c3a6758fbb911ac7d378bd4764985566cae8e70e68e9c85d72f6d", func := "userplane/userplanelaw14.IterateClean", spec := "iterateClean", unfollowed := true, recurses := true, apart := false, narrowed := true }
def IterateCleanUptoSaid : Prop := iterateCleanUptoRow.holds Try.pinned (OpenSpec.upto iterateCleanSpec)

/-- 'userplanelaw14.IterateHolds', WHERE WHAT IT READS IS OF BULK AT MOST 1048576: true; the input reads as it did. -/
def iterateHoldsUptoRow : OpenClaim := { program := "ytpdalbckmfadbaa", sum := "720cc8128f5c3a6758fbb911ac7d378bd4764985566cae8e70e68e9c85d72f6d", func := "userplane/userplanelaw14.IterateHolds", spec := "iterateHolds", unfollowed := true, recurses := true, apart := false, narrowed := true }
def IterateHoldsUptoSaid : Prop := iterateHoldsUptoRow.holds Try.pinned (OpenSpec.upto iterateHoldsSpec)

end Rows
end Go.Proofs.Ytpdalbckmfadbaa
