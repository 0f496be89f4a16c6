/-
  No cell of these rows narrows 'for every input' (looked for: loops, veiled, ifaces, maps, wideKeys, modest, calm, conditions, laid).
  DERIVED. THE GIVEN ROWS OF THIS SEAT. 7 by the template 'for every input the law returns true; each argument reads behind the call as it read before'; 0 by the template 'total and deterministic' (their statements: YtkdfefpnhaebfaaGreatTotals.lean).
  GIVEN WITH THE SEED: the statements are not yours to turn. If you find one false, say at which input.
  Laid BY PROGRAM, IN A SANDBOX (cutbox-rows.mjs): the forced cells as the released guide's own fill.sh prints them over the translation eb67350791cfa1de… (all of the seat's roots in one cut). By AI agents, Wed Nov 11 2026. No macro, syntax, notation, axiom, sorry.
-/
import Derived.Test.YtkdfefpnhaebfaaGreatChecked
import GoSem.Claim
import GoSem.ClaimJoined
import GoSem.ClaimMapViews
import Derived.JoinedTies
import Derived.KernelRfl
namespace Go.Proofs.YtkdfefpnhaebfaaGreat
/- THE CELL 'sum', in the pinned program and in every row, IS THE sha256 OF THE DUMP (.gsa) THAT YtkdfefpnhaebfaaGreatProg.lean LOADS. Nothing in Lean hashes anything: it is a label: what it is worth is what the hold of that sum in a sandbox is worth. -/
noncomputable def Tryz.pinned : Pinned := { name := "ytkdfefpnhaebfaagreat", sum := "eb67350791cfa1de7282c92bc05a8d6a375a2d157adf656b25d741f51a90aac4", checked := Tryz.checked }
namespace Rows
def none {H : Type} : Left H := { results := [], args := [] }

/-- 'userplanelaw21.HarqrxClean': WHATEVER THE INPUT: true; the input reads as it did. -/
def harqrxCleanSpec : ChangeSpec := { name := "harqrxClean", fn := fun _ => fun
  | [d1, d2, d3, d4, d5, d6, d7] => { results := [.lit (.bool true)], args := [d1, d2, d3, d4, d5, d6, d7] }
  | _ => none }
def harqrxCleanRow : OpenClaim := { program := "ytkdfefpnhaebfaagreat", sum := "eb67350791cfa1de7282c92bc05a8d6a375a2d157adf656b25d741f51a90aac4", func := "userplane/userplanelaw21.HarqrxClean", spec := "harqrxClean", unfollowed := true, recurses := true, apart := false }
def HarqrxCleanSaid : Prop := harqrxCleanRow.holds Tryz.pinned (OpenSpec.ofChange harqrxCleanSpec)

/-- ITS FALSE NEIGHBOUR: 'it returns false'. Refute it at one input. -/
def harqrxCleanWrong : ChangeSpec := { name := "harqrxClean", fn := fun _ => fun
  | [d1, d2, d3, d4, d5, d6, d7] => { results := [.lit (.bool false)], args := [d1, d2, d3, d4, d5, d6, d7] }
  | _ => none }
def HarqrxCleanWrongFalsely : Prop := harqrxCleanRow.holds Tryz.pinned (OpenSpec.ofChange harqrxCleanWrong)

/-- 'userplanelaw21.HarqrxBlocks': WHATEVER THE INPUT: true; the input reads as it did. -/
def harqrxBlocksSpec : ChangeSpec := { name := "harqrxBlocks", fn := fun _ => fun
  | [d1, d2] => { results := [.lit (.bool true)], args := [d1, d2] }
  | _ => none }
def harqrxBlocksRow : OpenClaim := { program := "ytkdfefpnhaebfaagreat", sum := "eb67350791cfa1de7282c92bc05a8d6a375a2d157adf656b25d741f51a90aac4", func := "userplane/userplanelaw21.HarqrxBlocks", spec := "harqrxBlocks", unfollowed := true, recurses := true, apart := false }
def HarqrxBlocksSaid : Prop := harqrxBlocksRow.holds Tryz.pinned (OpenSpec.ofChange harqrxBlocksSpec)

/-- ITS FALSE NEIGHBOUR: 'it returns false'. Refute it at one input. -/
def harqrxBlocksWrong : ChangeSpec := { name := "harqrxBlocks", fn := fun _ => fun
  | [d1, d2] => { results := [.lit (.bool false)], args := [d1, d2] }
  | _ => none }
def HarqrxBlocksWrongFalsely : Prop := harqrxBlocksRow.holds Tryz.pinned (OpenSpec.ofChange harqrxBlocksWrong)

/-- 'userplanelaw21.HarqrxRuns': WHATEVER THE INPUT: true; the input reads as it did. -/
def harqrxRunsSpec : ChangeSpec := { name := "harqrxRuns", fn := fun _ => fun
  | [d1, d2] => { results := [.lit (.bool true)], args := [d1, d2] }
  | _ => none }
def harqrxRunsRow : OpenClaim := { program := "ytkdfefpnhaebfaagreat", sum := "eb67350791cfa1de7282c92bc05a8d6a375a2d157adf656b25d741f51a90aac4", func := "userplane/userplanelaw21.HarqrxRuns", spec := "harqrxRuns", unfollowed := true, recurses := true, apart := false }
def HarqrxRunsSaid : Prop := harqrxRunsRow.holds Tryz.pinned (OpenSpec.ofChange harqrxRunsSpec)

/-- ITS FALSE NEIGHBOUR: 'it returns false'. Refute it at one input. -/
def harqrxRunsWrong : ChangeSpec := { name := "harqrxRuns", fn := fun _ => fun
  | [d1, d2] => { results := [.lit (.bool false)], args := [d1, d2] }
  | _ => none }
def HarqrxRunsWrongFalsely : Prop := harqrxRunsRow.holds Tryz.pinned (OpenSpec.ofChange harqrxRunsWrong)

/-- 'userplanelaw21.HarqrxOnce': WHATEVER THE INPUT: true; the input reads as it did. -/
def harqrxOnceSpec : ChangeSpec := { name := "harqrxOnce", fn := fun _ => fun
  | [d1, d2, d3] => { results := [.lit (.bool true)], args := [d1, d2, d3] }
  | _ => none }
def harqrxOnceRow : OpenClaim := { program := "ytkdfefpnhaebfaagreat", sum := "eb67350791cfa1de7282c92bc05a8d6a375a2d157adf656b25d741f51a90aac4", func := "userplane/userplanelaw21.HarqrxOnce", spec := "harqrxOnce", unfollowed := true, recurses := true, apart := false }
def HarqrxOnceSaid : Prop := harqrxOnceRow.holds Tryz.pinned (OpenSpec.ofChange harqrxOnceSpec)

/-- ITS FALSE NEIGHBOUR: 'it returns false'. Refute it at one input. -/
def harqrxOnceWrong : ChangeSpec := { name := "harqrxOnce", fn := fun _ => fun
  | [d1, d2, d3] => { results := [.lit (.bool false)], args := [d1, d2, d3] }
  | _ => none }
def HarqrxOnceWrongFalsely : Prop := harqrxOnceRow.holds Tryz.pinned (OpenSpec.ofChange harqrxOnceWrong)

/-- 'userplanelaw21.HarqrxFresh': WHATEVER THE INPUT: true; the input reads as it did. -/
def harqrxFreshSpec : ChangeSpec := { name := "harqrxFresh", fn := fun _ => fun
  | [d1, d2, d3] => { results := [.lit (.bool true)], args := [d1, d2, d3] }
  | _ => none }
def harqrxFreshRow : OpenClaim := { program := "ytkdfefpnhaebfaagreat", sum := "eb67350791cfa1de7282c92bc05a8d6a375a2d157adf656b25d741f51a90aac4", func := "userplane/userplanelaw21.HarqrxFresh", spec := "harqrxFresh", unfollowed := true, recurses := true, apart := false }
def HarqrxFreshSaid : Prop := harqrxFreshRow.holds Tryz.pinned (OpenSpec.ofChange harqrxFreshSpec)

/-- ITS FALSE NEIGHBOUR: 'it returns false'. Refute it at one input. -/
def harqrxFreshWrong : ChangeSpec := { name := "harqrxFresh", fn := fun _ => fun
  | [d1, d2, d3] => { results := [.lit (.bool false)], args := [d1, d2, d3] }
  | _ => none }
def HarqrxFreshWrongFalsely : Prop := harqrxFreshRow.holds Tryz.pinned (OpenSpec.ofChange harqrxFreshWrong)

/-- 'userplanelaw21.HarqrxCopies': WHATEVER THE INPUT: true; the input reads as it did. -/
def harqrxCopiesSpec : ChangeSpec := { name := "harqrxCopies", fn := fun _ => fun
  | [d1, d2, d3, d4] => { results := [.lit (.bool true)], args := [d1, d2, d3, d4] }
  | _ => none }
def harqrxCopiesRow : OpenClaim := { program := "ytkdfefpnhaebfaagreat", sum := "eb67350791cfa1de7282c92bc05a8d6a375a2d157adf656b25d741f51a90aac4", func := "userplane/userplanelaw21.HarqrxCopies", spec := "harqrxCopies", unfollowed := true, recurses := true, apart := false }
def HarqrxCopiesSaid : Prop := harqrxCopiesRow.holds Tryz.pinned (OpenSpec.ofChange harqrxCopiesSpec)

/-- ITS FALSE NEIGHBOUR: 'it returns false'. Refute it at one input. -/
def harqrxCopiesWrong : ChangeSpec := { name := "harqrxCopies", fn := fun _ => fun
  | [d1, d2, d3, d4] => { results := [.lit (.bool false)], args := [d1, d2, d3, d4] }
  | _ => none }
def HarqrxCopiesWrongFalsely : Prop := harqrxCopiesRow.holds Tryz.pinned (OpenSpec.ofChange harqrxCopiesWrong)

/-- 'userplanelaw21.HarqrxNil': WHATEVER THE INPUT: true; the input reads as it did. -/
def harqrxNilSpec : ChangeSpec := { name := "harqrxNil", fn := fun _ => fun
  | [d] => { results := [.lit (.bool true)], args := [d] }
  | _ => none }
def harqrxNilRow : OpenClaim := { program := "ytkdfefpnhaebfaagreat", sum := "eb67350791cfa1de7282c92bc05a8d6a375a2d157adf656b25d741f51a90aac4", func := "userplane/userplanelaw21.HarqrxNil", spec := "harqrxNil", unfollowed := true, recurses := true, apart := false }
def HarqrxNilSaid : Prop := harqrxNilRow.holds Tryz.pinned (OpenSpec.ofChange harqrxNilSpec)

/-- ITS FALSE NEIGHBOUR: 'it returns false'. Refute it at one input. -/
def harqrxNilWrong : ChangeSpec := { name := "harqrxNil", fn := fun _ => fun
  | [d] => { results := [.lit (.bool false)], args := [d] }
  | _ => none }
def HarqrxNilWrongFalsely : Prop := harqrxNilRow.holds Tryz.pinned (OpenSpec.ofChange harqrxNilWrong)

/- THE SECOND FORM. 'bulk': how many values and letters a reading holds, each counted each time it is reached (what is shared counts as often as it is met; a slice's spare places count too). A statement '..UptoSaid' is the law's where the arguments, and the package variables that the reading takes, are together of bulk at most 1048576: NARROWER than '..Said'. Prove '..Said' where nothing that the law and all that it calls make is longer than what came in: it says more and counts as full. Else prove '..UptoSaid'. A law counts once. -/
mutual
def uptoBulk {H : Type} : DataW H → Nat
  | .lit (.string bytes) => bytes.length + 1
  | .lit _ => 1
  | .nil => 1
  | .ptr d => uptoBulk d + 1
  | .slice elems spare => uptoBulkAll elems + uptoBulkAll spare + 1
  | .agg parts => uptoBulkAll parts + 1
  | .iface _ d => uptoBulk d + 1
  | .map entries => uptoBulkEntries entries + 1
  | .held _ => 1
def uptoBulkAll {H : Type} : List (DataW H) → Nat
  | [] => 0
  | d :: r => uptoBulk d + uptoBulkAll r
def uptoBulkEntries {H : Type} : List (Lit × DataW H) → Nat
  | [] => 0
  | x :: r => uptoBulkEntry x + uptoBulkEntries r
def uptoBulkEntry {H : Type} : Lit × DataW H → Nat
  | (.string bytes, d) => bytes.length + uptoBulk d + 1
  | (_, d) => uptoBulk d + 1
 end
def uptoSmall : (H : Type) → List (DataW H) → Bool := fun _ ds => decide (uptoBulkAll ds ≤ 1048576)
def OpenSpec.upto (s : _root_.Go.ChangeSpec) : _root_.Go.OpenSpec := { _root_.Go.OpenSpec.ofChange s with cond := some uptoSmall }

/-- 'userplanelaw21.HarqrxClean', WHERE WHAT IT READS IS OF BULK AT MOST 1048576: true; the input reads as it did. -/
def harqrxCleanUptoRow : OpenClaim := { program := "ytkdfefpnhaebfaagreat", sum := "eb67350791cfa1de7282c92bc05a8d6a375a2d157adf656b25d741f51a90aac4", func := "userplane/userplanelaw21.HarqrxClean", spec := "harqrxClean", unfollowed := true, recurses := true, apart := false, narrowed := true }
def HarqrxCleanUptoSaid : Prop := harqrxCleanUptoRow.holds Tryz.pinned (OpenSpec.upto harqrxCleanSpec)

/-- 'userplanelaw21.HarqrxBlocks', WHERE WHAT IT READS IS OF BULK AT MOST 1048576: true; the input reads as it did. -/
def harqrxBlocksUptoRow : OpenClaim := { program := "ytkdfefpnhaebfaagreat", sum := "eb67350791cfa1de7282c92bc05a8d6a375a2d157adf656b25d741f51a90aac4", func := "userplane/userplanelaw21.HarqrxBlocks", spec := "harqrxBlocks", unfollowed := true, recurses := true, apart := false, narrowed := true }
def HarqrxBlocksUptoSaid : Prop := harqrxBlocksUptoRow.holds Tryz.pinned (OpenSpec.upto harqrxBlocksSpec)

/-- 'userplanelaw21.HarqrxRuns', WHERE WHAT IT READS IS OF BULK AT MOST 1048576: true; the input reads as it did. -/
def harqrxRunsUptoRow : OpenClaim := { program := "ytkdfefpnhaebfaagreat", sum := "eb67350791cfa1de7282c92bc05a8d6a375a2d157adf656b25d741f51a90aac4", func := "userplane/userplanelaw21.HarqrxRuns", spec := "harqrxRuns", unfollowed := true, recurses := true, apart := false, narrowed := true }
def HarqrxRunsUptoSaid : Prop := harqrxRunsUptoRow.holds Tryz.pinned (OpenSpec.upto harqrxRunsSpec)

/-- 'userplanelaw21.HarqrxOnce', WHERE WHAT IT READS IS OF BULK AT MOST 1048576: true; the input reads as it did. -/
def harqrxOnceUptoRow : OpenClaim := { program := "ytkdfefpnhaebfaagreat", sum := "eb67350791cfa1de7282c92bc05a8d6a375a2d157adf656b25d741f51a90aac4", func := "userplane/userplanelaw21.HarqrxOnce", spec := "harqrxOnce", unfollowed := true, recurses := true, apart := false, narrowed := true }
def HarqrxOnceUptoSaid : Prop := harqrxOnceUptoRow.holds Tryz.pinned (OpenSpec.upto harqrxOnceSpec)

/-- 'userplanelaw21.HarqrxFresh', WHERE WHAT IT READS IS OF BULK AT MOST 1048576: true; the input reads as it did. -/
def harqrxFreshUptoRow : OpenClaim := { program := "ytkdfefpnhaebfaagreat", sum := "eb67350791cfa1de7282c92bc05a8d6a375a2d157adf656b25d741f51a90aac4", func := "userplane/userplanelaw21.HarqrxFresh", spec := "harqrxFresh", unfollowed := true, recurses := true, apart := false, narrowed := true }
def HarqrxFreshUptoSaid : Prop := harqrxFreshUptoRow.holds Tryz.pinned (OpenSpec.upto harqrxFreshSpec)

/-- 'userplanelaw21.HarqrxCopies', WHERE WHAT IT READS IS OF BULK AT MOST 1048576: true; the input reads as it did. -/
def harqrxCopiesUptoRow : OpenClaim := { program := "ytkdfefpnhaebfaagreat", sum := "eb67350791cfa1de7282c92bc05a8d6a375a2d157adf656b25d741f51a90aac4", func := "userplane/userplanelaw21.HarqrxCopies", spec := "harqrxCopies", unfollowed := true, recurses := true, apart := false, narrowed := true }
def HarqrxCopiesUptoSaid : Prop := harqrxCopiesUptoRow.holds Tryz.pinned (OpenSpec.upto harqrxCopiesSpec)

/-- 'userplanelaw21.HarqrxNil', WHERE WHAT IT READS IS OF BULK AT MOST 1048576: true; the input reads as it did. -/
def harqrxNilUptoRow : OpenClaim := { program := "ytkdfefpnhaebfaagreat", sum := "eb67350791cfa1de7282c92bc05a8d6a375a2d157adf656b25d741f51a90aac4", func := "userplane/userplanelaw21.HarqrxNil", spec := "harqrxNil", unfollowed := true, recurses := true, apart := false, narrowed := true }
def HarqrxNilUptoSaid : Prop := harqrxNilUptoRow.holds Tryz.pinned (OpenSpec.upto harqrxNilSpec)

end Rows
end Go.Proofs.YtkdfefpnhaebfaaGreat
