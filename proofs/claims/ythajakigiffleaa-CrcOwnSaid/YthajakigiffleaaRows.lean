/-
  No cell of these rows narrows 'for every input' (looked for: loops, veiled, ifaces, maps, wideKeys, modest, calm, conditions, laid).
  DERIVED. THE GIVEN ROWS OF THIS SEAT. 8 by the template 'for every input the law returns true; each argument reads behind the call as it read before'; 0 by the template 'total and deterministic' (their statements: YthajakigiffleaaTotals.lean).
  GIVEN WITH THE SEED: the statements are not yours to turn. If you find one false, say at which input.
  Laid BY PROGRAM, IN A SANDBOX (cutbox-rows.mjs): the forced cells as the released guide's own fill.sh prints them over the translation 6ffeb6700a9de87d… (all of the seat's roots in one cut). By AI agents, Wed Nov 11 2026. No macro, syntax, notation, axiom, sorry.
-/
import Derived.Test.YthajakigiffleaaChecked
import GoSem.Claim
import GoSem.ClaimJoined
import GoSem.ClaimMapViews
import Derived.JoinedTies
import Derived.KernelRfl
namespace Go.Proofs.Ythajakigiffleaa
/- THE CELL 'sum', in the pinned program and in every row, IS THE sha256 OF THE DUMP (.gsa) THAT YthajakigiffleaaProg.lean LOADS. Nothing in Lean hashes anything: it is a label: what it is worth is what the hold of that sum in a sandbox is worth. -/
noncomputable def Try.pinned : Pinned := { name := "ythajakigiffleaa", sum := "6ffeb6700a9de87de817577db25f0d7fd9e09eaed4281ea56ac04e4f5168b36f", checked := Try.checked }
namespace Rows
def none {H : Type} : Left H := { results := [], args := [] }

/-- 'userplanelaw03.CrcComputes': WHATEVER THE INPUT: true; the input reads as it did. -/
def crcComputesSpec : ChangeSpec := { name := "crcComputes", fn := fun _ => fun
  | [d1, d2] => { results := [.lit (.bool true)], args := [d1, d2] }
  | _ => none }
def crcComputesRow : OpenClaim := { program := "ythajakigiffleaa", sum := "6ffeb6700a9de87de817577db25f0d7fd9e09eaed4281ea56ac04e4f5168b36f", func := "userplane/userplanelaw03.CrcComputes", spec := "crcComputes", unfollowed := true, recurses := true, apart := false }
def CrcComputesSaid : Prop := crcComputesRow.holds Try.pinned (OpenSpec.ofChange crcComputesSpec)

/-- ITS FALSE NEIGHBOUR: 'it returns false'. Refute it at one input. -/
def crcComputesWrong : ChangeSpec := { name := "crcComputes", fn := fun _ => fun
  | [d1, d2] => { results := [.lit (.bool false)], args := [d1, d2] }
  | _ => none }
def CrcComputesWrongFalsely : Prop := crcComputesRow.holds Try.pinned (OpenSpec.ofChange crcComputesWrong)

/-- 'userplanelaw03.CrcChecks': WHATEVER THE INPUT: true; the input reads as it did. -/
def crcChecksSpec : ChangeSpec := { name := "crcChecks", fn := fun _ => fun
  | [d1, d2] => { results := [.lit (.bool true)], args := [d1, d2] }
  | _ => none }
def crcChecksRow : OpenClaim := { program := "ythajakigiffleaa", sum := "6ffeb6700a9de87de817577db25f0d7fd9e09eaed4281ea56ac04e4f5168b36f", func := "userplane/userplanelaw03.CrcChecks", spec := "crcChecks", unfollowed := true, recurses := true, apart := false }
def CrcChecksSaid : Prop := crcChecksRow.holds Try.pinned (OpenSpec.ofChange crcChecksSpec)

/-- ITS FALSE NEIGHBOUR: 'it returns false'. Refute it at one input. -/
def crcChecksWrong : ChangeSpec := { name := "crcChecks", fn := fun _ => fun
  | [d1, d2] => { results := [.lit (.bool false)], args := [d1, d2] }
  | _ => none }
def CrcChecksWrongFalsely : Prop := crcChecksRow.holds Try.pinned (OpenSpec.ofChange crcChecksWrong)

/-- 'userplanelaw03.CrcLinear': WHATEVER THE INPUT: true; the input reads as it did. -/
def crcLinearSpec : ChangeSpec := { name := "crcLinear", fn := fun _ => fun
  | [d1, d2, d3] => { results := [.lit (.bool true)], args := [d1, d2, d3] }
  | _ => none }
def crcLinearRow : OpenClaim := { program := "ythajakigiffleaa", sum := "6ffeb6700a9de87de817577db25f0d7fd9e09eaed4281ea56ac04e4f5168b36f", func := "userplane/userplanelaw03.CrcLinear", spec := "crcLinear", unfollowed := true, recurses := true, apart := false }
def CrcLinearSaid : Prop := crcLinearRow.holds Try.pinned (OpenSpec.ofChange crcLinearSpec)

/-- ITS FALSE NEIGHBOUR: 'it returns false'. Refute it at one input. -/
def crcLinearWrong : ChangeSpec := { name := "crcLinear", fn := fun _ => fun
  | [d1, d2, d3] => { results := [.lit (.bool false)], args := [d1, d2, d3] }
  | _ => none }
def CrcLinearWrongFalsely : Prop := crcLinearRow.holds Try.pinned (OpenSpec.ofChange crcLinearWrong)

/-- 'userplanelaw03.CrcBack': WHATEVER THE INPUT: true; the input reads as it did. -/
def crcBackSpec : ChangeSpec := { name := "crcBack", fn := fun _ => fun
  | [d1, d2] => { results := [.lit (.bool true)], args := [d1, d2] }
  | _ => none }
def crcBackRow : OpenClaim := { program := "ythajakigiffleaa", sum := "6ffeb6700a9de87de817577db25f0d7fd9e09eaed4281ea56ac04e4f5168b36f", func := "userplane/userplanelaw03.CrcBack", spec := "crcBack", unfollowed := true, recurses := true, apart := false }
def CrcBackSaid : Prop := crcBackRow.holds Try.pinned (OpenSpec.ofChange crcBackSpec)

/-- ITS FALSE NEIGHBOUR: 'it returns false'. Refute it at one input. -/
def crcBackWrong : ChangeSpec := { name := "crcBack", fn := fun _ => fun
  | [d1, d2] => { results := [.lit (.bool false)], args := [d1, d2] }
  | _ => none }
def CrcBackWrongFalsely : Prop := crcBackRow.holds Try.pinned (OpenSpec.ofChange crcBackWrong)

/-- 'userplanelaw03.CrcResidue': WHATEVER THE INPUT: true; the input reads as it did. -/
def crcResidueSpec : ChangeSpec := { name := "crcResidue", fn := fun _ => fun
  | [d1, d2, d3] => { results := [.lit (.bool true)], args := [d1, d2, d3] }
  | _ => none }
def crcResidueRow : OpenClaim := { program := "ythajakigiffleaa", sum := "6ffeb6700a9de87de817577db25f0d7fd9e09eaed4281ea56ac04e4f5168b36f", func := "userplane/userplanelaw03.CrcResidue", spec := "crcResidue", unfollowed := true, recurses := true, apart := false }
def CrcResidueSaid : Prop := crcResidueRow.holds Try.pinned (OpenSpec.ofChange crcResidueSpec)

/-- ITS FALSE NEIGHBOUR: 'it returns false'. Refute it at one input. -/
def crcResidueWrong : ChangeSpec := { name := "crcResidue", fn := fun _ => fun
  | [d1, d2, d3] => { results := [.lit (.bool false)], args := [d1, d2, d3] }
  | _ => none }
def CrcResidueWrongFalsely : Prop := crcResidueRow.holds Try.pinned (OpenSpec.ofChange crcResidueWrong)

/-- 'userplanelaw03.CrcBursts': WHATEVER THE INPUT: true; the input reads as it did. -/
def crcBurstsSpec : ChangeSpec := { name := "crcBursts", fn := fun _ => fun
  | [d1, d2, d3, d4] => { results := [.lit (.bool true)], args := [d1, d2, d3, d4] }
  | _ => none }
def crcBurstsRow : OpenClaim := { program := "ythajakigiffleaa", sum := "6ffeb6700a9de87de817577db25f0d7fd9e09eaed4281ea56ac04e4f5168b36f", func := "userplane/userplanelaw03.CrcBursts", spec := "crcBursts", unfollowed := true, recurses := true, apart := false }
def CrcBurstsSaid : Prop := crcBurstsRow.holds Try.pinned (OpenSpec.ofChange crcBurstsSpec)

/-- ITS FALSE NEIGHBOUR: 'it returns false'. Refute it at one input. -/
def crcBurstsWrong : ChangeSpec := { name := "crcBursts", fn := fun _ => fun
  | [d1, d2, d3, d4] => { results := [.lit (.bool false)], args := [d1, d2, d3, d4] }
  | _ => none }
def CrcBurstsWrongFalsely : Prop := crcBurstsRow.holds Try.pinned (OpenSpec.ofChange crcBurstsWrong)

/-- 'userplanelaw03.CrcMasks': WHATEVER THE INPUT: true; the input reads as it did. -/
def crcMasksSpec : ChangeSpec := { name := "crcMasks", fn := fun _ => fun
  | [d1, d2] => { results := [.lit (.bool true)], args := [d1, d2] }
  | _ => none }
def crcMasksRow : OpenClaim := { program := "ythajakigiffleaa", sum := "6ffeb6700a9de87de817577db25f0d7fd9e09eaed4281ea56ac04e4f5168b36f", func := "userplane/userplanelaw03.CrcMasks", spec := "crcMasks", unfollowed := true, recurses := true, apart := false }
def CrcMasksSaid : Prop := crcMasksRow.holds Try.pinned (OpenSpec.ofChange crcMasksSpec)

/-- ITS FALSE NEIGHBOUR: 'it returns false'. Refute it at one input. -/
def crcMasksWrong : ChangeSpec := { name := "crcMasks", fn := fun _ => fun
  | [d1, d2] => { results := [.lit (.bool false)], args := [d1, d2] }
  | _ => none }
def CrcMasksWrongFalsely : Prop := crcMasksRow.holds Try.pinned (OpenSpec.ofChange crcMasksWrong)

/-- 'userplanelaw03.CrcOwn': WHATEVER THE INPUT: true; the input reads as it did. -/
def crcOwnSpec : ChangeSpec := { name := "crcOwn", fn := fun _ => fun
  | [d1, d2, d3] => { results := [.lit (.bool true)], args := [d1, d2, d3] }
  | _ => none }
def crcOwnRow : OpenClaim := { program := "ythajakigiffleaa", sum := "6ffeb6700a9de87de817577db25f0d7fd9e09eaed4281ea56ac04e4f5168b36f", func := "userplane/userplanelaw03.CrcOwn", spec := "crcOwn", unfollowed := true, recurses := true, apart := false }
def CrcOwnSaid : Prop := crcOwnRow.holds Try.pinned (OpenSpec.ofChange crcOwnSpec)

/-- ITS FALSE NEIGHBOUR: 'it returns false'. Refute it at one input. -/
def crcOwnWrong : ChangeSpec := { name := "crcOwn", fn := fun _ => fun
  | [d1, d2, d3] => { results := [.lit (.bool false)], args := [d1, d2, d3] }
  | _ => none }
def CrcOwnWrongFalsely : Prop := crcOwnRow.holds Try.pinned (OpenSpec.ofChange crcOwnWrong)

/- THE SECOND FORM. 'bulk': how many values and letters a reading holds, each counted each time it is reached (what is shared counts as often as it is met; a slice's spare places count too). A statement '..UptoSaid' is the law's where the arguments, and the package variables that the reading takes, are together of bulk at most 1048576: NARROWER than '..Said'. Prove '..Said' where nothing that the law and all that it calls make is longer than what came in: it says more and counts as full. Else prove '..UptoSaid'. A law counts once. -/
mutual
def uptoBulk {H : Type} : DataW H → Nat
  | .lit (.string bytes) => bytes.length + 1
  | .lit _ => 1
  | .nil => 1
  | .ptr d => uptoBulk d + 1
  | .slice elems spare => uptoBulkAll elems + uptoBulkAll spare + 1
  | .agg parts => uptoBulkAll parts + 1
  | .iface _ d => uptoBulk d + 1
  | .map entries => uptoBulkEntries entries + 1
  | .held _ => 1
def uptoBulkAll {H : Type} : List (DataW H) → Nat
  | [] => 0
  | d :: r => uptoBulk d + uptoBulkAll r
def uptoBulkEntries {H : Type} : List (Lit × DataW H) → Nat
  | [] => 0
  | x :: r => uptoBulkEntry x + uptoBulkEntries r
def uptoBulkEntry {H : Type} : Lit × DataW H → Nat
  | (.string bytes, d) => bytes.length + uptoBulk d + 1
  | (_, d) => uptoBulk d + 1
 end
def uptoSmall : (H : Type) → List (DataW H) → Bool := fun _ ds => decide (uptoBulkAll ds ≤ 1048576)
def OpenSpec.upto (s : _root_.Go.ChangeSpec) : _root_.Go.OpenSpec := { _root_.Go.OpenSpec.ofChange s with cond := some uptoSmall }

/-- 'userplanelaw03.CrcComputes', WHERE WHAT IT READS IS OF BULK AT MOST 1048576: true; the input reads as it did. -/
def crcComputesUptoRow : OpenClaim := { program := "ythajakigiffleaa", sum := "6ffeb6700a9de87de817577db25f0d7fd9e09eaed4281ea56ac04e4f5168b36f", func := "userplane/userplanelaw03.CrcComputes", spec := "crcComputes", unfollowed := true, recurses := true, apart := false, narrowed := true }
def CrcComputesUptoSaid : Prop := crcComputesUptoRow.holds Try.pinned (OpenSpec.upto crcComputesSpec)

/-- 'userplanelaw03.CrcChecks', WHERE WHAT IT READS IS OF BULK AT MOST 1048576: true; the input reads as it did. -/
def crcChecksUptoRow : OpenClaim := { program := "ythajakigiffleaa", sum := "6ffeb6700a9de87de817577db25f0d7fd9e09eaed4281ea56ac04e4f5168b36f", func := "userplane/userplanelaw03.CrcChecks", spec := "crcChecks", unfollowed := true, recurses := true, apart := false, narrowed := true }
def CrcChecksUptoSaid : Prop := crcChecksUptoRow.holds Try.pinned (OpenSpec.upto crcChecksSpec)

/-- 'userplanelaw03.CrcLinear', WHERE WHAT IT READS IS OF BULK AT MOST 1048576: true; the input reads as it did. -/
def crcLinearUptoRow : OpenClaim := { program := "ythajakigiffleaa", sum := "6ffeb6700a9de87de817577db25f0d7fd9e09eaed4281ea56ac04e4f5168b36f", func := "userplane/userplanelaw03.CrcLinear", spec := "crcLinear", unfollowed := true, recurses := true, apart := false, narrowed := true }
def CrcLinearUptoSaid : Prop := crcLinearUptoRow.holds Try.pinned (OpenSpec.upto crcLinearSpec)

/-- 'userplanelaw03.CrcBack', WHERE WHAT IT READS IS OF BULK AT MOST 1048576: true; the input reads as it did. -/
def crcBackUptoRow : OpenClaim := { program := "ythajakigiffleaa", sum := "6ffeb6700a9de87de817577db25f0d7fd9e09eaed4281ea56ac04e4f5168b36f", func := "userplane/userplanelaw03.CrcBack", spec := "crcBack", unfollowed := true, recurses := true, apart := false, narrowed := true }
def CrcBackUptoSaid : Prop := crcBackUptoRow.holds Try.pinned (OpenSpec.upto crcBackSpec)

/-- 'userplanelaw03.CrcResidue', WHERE WHAT IT READS IS OF BULK AT MOST 1048576: true; the input reads as it did. -/
def crcResidueUptoRow : OpenClaim := { program := "ythajakigiffleaa", sum := "6ffeb6700a9de87de817577db25f0d7fd9e09eaed4281ea56ac04e4f5168b36f", func := "userplane/userplanelaw03.CrcResidue", spec := "crcResidue", unfollowed := true, recurses := true, apart := false, narrowed := true }
def CrcResidueUptoSaid : Prop := crcResidueUptoRow.holds Try.pinned (OpenSpec.upto crcResidueSpec)

/-- 'userplanelaw03.CrcBursts', WHERE WHAT IT READS IS OF BULK AT MOST 1048576: true; the input reads as it did. -/
def crcBurstsUptoRow : OpenClaim := { program := "ythajakigiffleaa", sum := "6ffeb6700a9de87de817577db25f0d7fd9e09eaed4281ea56ac04e4f5168b36f", func := "userplane/userplanelaw03.CrcBursts", spec := "crcBursts", unfollowed := true, recurses := true, apart := false, narrowed := true }
def CrcBurstsUptoSaid : Prop := crcBurstsUptoRow.holds Try.pinned (OpenSpec.upto crcBurstsSpec)

/-- 'userplanelaw03.CrcMasks', WHERE WHAT IT READS IS OF BULK AT MOST 1048576: true; the input reads as it did. -/
def crcMasksUptoRow : OpenClaim := { program := "ythajakigiffleaa", sum := "6ffeb6700a9de87de817577db25f0d7fd9e09eaed4281ea56ac04e4f5168b36f", func := "userplane/userplanelaw03.CrcMasks", spec := "crcMasks", unfollowed := true, recurses := true, apart := false, narrowed := true }
def CrcMasksUptoSaid : Prop := crcMasksUptoRow.holds Try.pinned (OpenSpec.upto crcMasksSpec)

/-- 'userplanelaw03.CrcOwn', WHERE WHAT IT READS IS OF BULK AT MOST 1048576: true; the input reads as it did. -/
def crcOwnUptoRow : OpenClaim := { program := "ythajakigiffleaa", sum := "6ffeb6700a9de87de817577db25f0d7fd9e09eaed4281ea56ac04e4f5168b36f", func := "userplane/userplanelaw03.CrcOwn", spec := "crcOwn", unfollowed := true, recurses := true, apart := false, narrowed := true }
def CrcOwnUptoSaid : Prop := crcOwnUptoRow.holds Try.pinned (OpenSpec.upto crcOwnSpec)

end Rows
end Go.Proofs.Ythajakigiffleaa
