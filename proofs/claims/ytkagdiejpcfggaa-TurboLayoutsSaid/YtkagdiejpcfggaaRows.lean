/-
  No cell of these rows narrows 'for every input' (looked for: loops, veiled, ifaces, maps, wideKeys, modest, calm, conditions, laid).
  DERIVED. THE GIVEN ROWS OF THIS SEAT. 7 by the template 'for every input the law returns true; each argument reads behind the call as it read before'; 0 by the template 'total and deterministic' (their statements: YtkagdiejpcfggaaTotals.lean).
  GIVEN WITH THE SEED: the statements are not yours to turn. If you find one false, say at which input.
  Laid BY PROGRAM, IN A SANDBOX (cutbox-rows.mjs): the forced cells as the released guide's own fill.sh prints them over the translation a4316aa0e552f879… (all of the seat's roots in one cut). By AI agents, Wed Nov 11 2026. No macro, syntax, notation, axiom, sorry.
-/
import Derived.Test.YtkagdiejpcfggaaChecked
import GoSem.Claim
import GoSem.ClaimJoined
import GoSem.ClaimMapViews
import Derived.JoinedTies
import Derived.KernelRfl
namespace Go.Proofs.Ytkagdiejpcfggaa
/- THE CELL 'sum', in the pinned program and in every row, IS THE sha256 OF THE DUMP (.gsa) THAT YtkagdiejpcfggaaProg.lean LOADS. Nothing in Lean hashes anything: it is a label: what it is worth is what the hold of that sum in a sandbox is worth. -/
noncomputable def Try.pinned : Pinned := { name := "ytkagdiejpcfggaa", sum := "a4316aa0e552f879c6548cf69057249ba5c7fb3237495ffd4386eec424707c80", checked := Try.checked }
namespace Rows
def none {H : Type} : Left H := { results := [], args := [] }

/-- 'userplanelaw08.TurboEncodes': WHATEVER THE INPUT: true; the input reads as it did. -/
def turboEncodesSpec : ChangeSpec := { name := "turboEncodes", fn := fun _ => fun
  | [d1, d2] => { results := [.lit (.bool true)], args := [d1, d2] }
  | _ => none }
def turboEncodesRow : OpenClaim := { program := "ytkagdiejpcfggaa", sum := "a4316aa0e552f879c6548cf69057249ba5c7fb3237495ffd4386eec424707c80", func := "userplane/userplanelaw08.TurboEncodes", spec := "turboEncodes", unfollowed := true, recurses := true, apart := false }
def TurboEncodesSaid : Prop := turboEncodesRow.holds Try.pinned (OpenSpec.ofChange turboEncodesSpec)

/-- ITS FALSE NEIGHBOUR: 'it returns false'. Refute it at one input. -/
def turboEncodesWrong : ChangeSpec := { name := "turboEncodes", fn := fun _ => fun
  | [d1, d2] => { results := [.lit (.bool false)], args := [d1, d2] }
  | _ => none }
def TurboEncodesWrongFalsely : Prop := turboEncodesRow.holds Try.pinned (OpenSpec.ofChange turboEncodesWrong)

/-- 'userplanelaw08.TurboLayouts': WHATEVER THE INPUT: true; the input reads as it did. -/
def turboLayoutsSpec : ChangeSpec := { name := "turboLayouts", fn := fun _ => fun
  | [d1, d2, d3] => { results := [.lit (.bool true)], args := [d1, d2, d3] }
  | _ => none }
def turboLayoutsRow : OpenClaim := { program := "ytkagdiejpcfggaa", sum := "a4316aa0e552f879c6548cf69057249ba5c7fb3237495ffd4386eec424707c80", func := "userplane/userplanelaw08.TurboLayouts", spec := "turboLayouts", unfollowed := true, recurses := true, apart := false }
def TurboLayoutsSaid : Prop := turboLayoutsRow.holds Try.pinned (OpenSpec.ofChange turboLayoutsSpec)

/-- ITS FALSE NEIGHBOUR: 'it returns false'. Refute it at one input. -/
def turboLayoutsWrong : ChangeSpec := { name := "turboLayouts", fn := fun _ => fun
  | [d1, d2, d3] => { results := [.lit (.bool false)], args := [d1, d2, d3] }
  | _ => none }
def TurboLayoutsWrongFalsely : Prop := turboLayoutsRow.holds Try.pinned (OpenSpec.ofChange turboLayoutsWrong)

/-- 'userplanelaw08.TurboLinear': WHATEVER THE INPUT: true; the input reads as it did. -/
def turboLinearSpec : ChangeSpec := { name := "turboLinear", fn := fun _ => fun
  | [d1, d2, d3] => { results := [.lit (.bool true)], args := [d1, d2, d3] }
  | _ => none }
def turboLinearRow : OpenClaim := { program := "ytkagdiejpcfggaa", sum := "a4316aa0e552f879c6548cf69057249ba5c7fb3237495ffd4386eec424707c80", func := "userplane/userplanelaw08.TurboLinear", spec := "turboLinear", unfollowed := true, recurses := true, apart := false }
def TurboLinearSaid : Prop := turboLinearRow.holds Try.pinned (OpenSpec.ofChange turboLinearSpec)

/-- ITS FALSE NEIGHBOUR: 'it returns false'. Refute it at one input. -/
def turboLinearWrong : ChangeSpec := { name := "turboLinear", fn := fun _ => fun
  | [d1, d2, d3] => { results := [.lit (.bool false)], args := [d1, d2, d3] }
  | _ => none }
def TurboLinearWrongFalsely : Prop := turboLinearRow.holds Try.pinned (OpenSpec.ofChange turboLinearWrong)

/-- 'userplanelaw08.TurboLists': WHATEVER THE INPUT: true; the input reads as it did. -/
def turboListsSpec : ChangeSpec := { name := "turboLists", fn := fun _ => fun
  | [d] => { results := [.lit (.bool true)], args := [d] }
  | _ => none }
def turboListsRow : OpenClaim := { program := "ytkagdiejpcfggaa", sum := "a4316aa0e552f879c6548cf69057249ba5c7fb3237495ffd4386eec424707c80", func := "userplane/userplanelaw08.TurboLists", spec := "turboLists", unfollowed := true, recurses := true, apart := false }
def TurboListsSaid : Prop := turboListsRow.holds Try.pinned (OpenSpec.ofChange turboListsSpec)

/-- ITS FALSE NEIGHBOUR: 'it returns false'. Refute it at one input. -/
def turboListsWrong : ChangeSpec := { name := "turboLists", fn := fun _ => fun
  | [d] => { results := [.lit (.bool false)], args := [d] }
  | _ => none }
def TurboListsWrongFalsely : Prop := turboListsRow.holds Try.pinned (OpenSpec.ofChange turboListsWrong)

/-- 'userplanelaw08.TurboChecks': WHATEVER THE INPUT: true; the input reads as it did. -/
def turboChecksSpec : ChangeSpec := { name := "turboChecks", fn := fun _ => fun
  | [d] => { results := [.lit (.bool true)], args := [d] }
  | _ => none }
def turboChecksRow : OpenClaim := { program := "ytkagdiejpcfggaa", sum := "a4316aa0e552f879c6548cf69057249ba5c7fb3237495ffd4386eec424707c80", func := "userplane/userplanelaw08.TurboChecks", spec := "turboChecks", unfollowed := true, recurses := true, apart := false }
def TurboChecksSaid : Prop := turboChecksRow.holds Try.pinned (OpenSpec.ofChange turboChecksSpec)

/-- ITS FALSE NEIGHBOUR: 'it returns false'. Refute it at one input. -/
def turboChecksWrong : ChangeSpec := { name := "turboChecks", fn := fun _ => fun
  | [d] => { results := [.lit (.bool false)], args := [d] }
  | _ => none }
def TurboChecksWrongFalsely : Prop := turboChecksRow.holds Try.pinned (OpenSpec.ofChange turboChecksWrong)

/-- 'userplanelaw08.TurboFlips': WHATEVER THE INPUT: true; the input reads as it did. -/
def turboFlipsSpec : ChangeSpec := { name := "turboFlips", fn := fun _ => fun
  | [d1, d2, d3, d4] => { results := [.lit (.bool true)], args := [d1, d2, d3, d4] }
  | _ => none }
def turboFlipsRow : OpenClaim := { program := "ytkagdiejpcfggaa", sum := "a4316aa0e552f879c6548cf69057249ba5c7fb3237495ffd4386eec424707c80", func := "userplane/userplanelaw08.TurboFlips", spec := "turboFlips", unfollowed := true, recurses := true, apart := false }
def TurboFlipsSaid : Prop := turboFlipsRow.holds Try.pinned (OpenSpec.ofChange turboFlipsSpec)

/-- ITS FALSE NEIGHBOUR: 'it returns false'. Refute it at one input. -/
def turboFlipsWrong : ChangeSpec := { name := "turboFlips", fn := fun _ => fun
  | [d1, d2, d3, d4] => { results := [.lit (.bool false)], args := [d1, d2, d3, d4] }
  | _ => none }
def TurboFlipsWrongFalsely : Prop := turboFlipsRow.holds Try.pinned (OpenSpec.ofChange turboFlipsWrong)

/-- 'userplanelaw08.TurboHolds': WHATEVER THE INPUT: true; the input reads as it did. -/
def turboHoldsSpec : ChangeSpec := { name := "turboHolds", fn := fun _ => fun
  | [d1, d2] => { results := [.lit (.bool true)], args := [d1, d2] }
  | _ => none }
def turboHoldsRow : OpenClaim := { program := "ytkagdiejpcfggaa", sum := "a4316aa0e552f879c6548cf69057249ba5c7fb3237495ffd4386eec424707c80", func := "userplane/userplanelaw08.TurboHolds", spec := "turboHolds", unfollowed := true, recurses := true, apart := false }
def TurboHoldsSaid : Prop := turboHoldsRow.holds Try.pinned (OpenSpec.ofChange turboHoldsSpec)

/-- ITS FALSE NEIGHBOUR: 'it returns false'. Refute it at one input. -/
def turboHoldsWrong : ChangeSpec := { name := "turboHolds", fn := fun _ => fun
  | [d1, d2] => { results := [.lit (.bool false)], args := [d1, d2] }
  | _ => none }
def TurboHoldsWrongFalsely : Prop := turboHoldsRow.holds Try.pinned (OpenSpec.ofChange turboHoldsWrong)

/- THE SECOND FORM. 'bulk': how many values and letters a reading holds, each counted each time it is reached (what is shared counts as often as it is met; a slice's spare places count too). A statement '..UptoSaid' is the law's where the arguments, and the package variables that the reading takes, are together of bulk at most 1048576: NARROWER than '..Said'. Prove '..Said' where nothing that the law and all that it calls make is longer than what came in: it says more and counts as full. Else prove '..UptoSaid'. A law counts once. -/
mutual
def uptoBulk {H : Type} : DataW H → Nat
  | .lit (.string bytes) => bytes.length + 1
  | .lit _ => 1
  | .nil => 1
  | .ptr d => uptoBulk d + 1
  | .slice elems spare => uptoBulkAll elems + uptoBulkAll spare + 1
  | .agg parts => uptoBulkAll parts + 1
  | .iface _ d => uptoBulk d + 1
  | .map entries => uptoBulkEntries entries + 1
  | .held _ => 1
def uptoBulkAll {H : Type} : List (DataW H) → Nat
  | [] => 0
  | d :: r => uptoBulk d + uptoBulkAll r
def uptoBulkEntries {H : Type} : List (Lit × DataW H) → Nat
  | [] => 0
  | x :: r => uptoBulkEntry x + uptoBulkEntries r
def uptoBulkEntry {H : Type} : Lit × DataW H → Nat
  | (.string bytes, d) => bytes.length + uptoBulk d + 1
  | (_, d) => uptoBulk d + 1
 end
def uptoSmall : (H : Type) → List (DataW H) → Bool := fun _ ds => decide (uptoBulkAll ds ≤ 1048576)
def OpenSpec.upto (s : _root_.Go.ChangeSpec) : _root_.Go.OpenSpec := { _root_.Go.OpenSpec.ofChange s with cond := some uptoSmall }

/-- 'userplanelaw08.TurboEncodes', WHERE WHAT IT READS IS OF BULK AT MOST 1048576: true; the input reads as it did. -/
def turboEncodesUptoRow : OpenClaim := { program := "ytkagdiejpcfggaa", sum := "a4316aa0e552f879c6548cf69057249ba5c7fb3237495ffd4386eec424707c80", func := "userplane/userplanelaw08.TurboEncodes", spec := "turboEncodes", unfollowed := true, recurses := true, apart := false, narrowed := true }
def TurboEncodesUptoSaid : Prop := turboEncodesUptoRow.holds Try.pinned (OpenSpec.upto turboEncodesSpec)

/-- 'userplanelaw08.TurboLayouts', WHERE WHAT IT READS IS OF BULK AT MOST 1048576: true; the input reads as it did. -/
def turboLayoutsUptoRow : OpenClaim := { program := "ytkagdiejpcfggaa", sum := "a4316aa0e552f879c6548cf69057249ba5c7fb3237495ffd4386eec424707c80", func := "userplane/userplanelaw08.TurboLayouts", spec := "turboLayouts", unfollowed := true, recurses := true, apart := false, narrowed := true }
def TurboLayoutsUptoSaid : Prop := turboLayoutsUptoRow.holds Try.pinned (OpenSpec.upto turboLayoutsSpec)

/-- 'userplanelaw08.TurboLinear', WHERE WHAT IT READS IS OF BULK AT MOST 1048576: true; the input reads as it did. -/
def turboLinearUptoRow : OpenClaim := { program := "ytkagdiejpcfggaa", sum := "a4316aa0e552f879c6548cf69057249ba5c7fb3237495ffd4386eec424707c80", func := "userplane/userplanelaw08.TurboLinear", spec := "turboLinear", unfollowed := true, recurses := true, apart := false, narrowed := true }
def TurboLinearUptoSaid : Prop := turboLinearUptoRow.holds Try.pinned (OpenSpec.upto turboLinearSpec)

/-- 'userplanelaw08.TurboLists', WHERE WHAT IT READS IS OF BULK AT MOST 1048576: true; the input reads as it did. -/
def turboListsUptoRow : OpenClaim := { program := "ytkagdiejpcfggaa", sum := "a4316aa0e552f879c6548cf69057249ba5c7fb3237495ffd4386eec424707c80", func := "userplane/userplanelaw08.TurboLists", spec := "turboLists", unfollowed := true, recurses := true, apart := false, narrowed := true }
def TurboListsUptoSaid : Prop := turboListsUptoRow.holds Try.pinned (OpenSpec.upto turboListsSpec)

/-- 'userplanelaw08.TurboChecks', WHERE WHAT IT READS IS OF BULK AT MOST 1048576: true; the input reads as it did. -/
def turboChecksUptoRow : OpenClaim := { program := "ytkagdiejpcfggaa", sum := "a4316aa0e552f879c6548cf69057249ba5c7fb3237495ffd4386eec424707c80", func := "userplane/userplanelaw08.TurboChecks", spec := "turboChecks", unfollowed := true, recurses := true, apart := false, narrowed := true }
def TurboChecksUptoSaid : Prop := turboChecksUptoRow.holds Try.pinned (OpenSpec.upto turboChecksSpec)

/-- 'userplanelaw08.TurboFlips', WHERE WHAT IT READS IS OF BULK AT MOST 1048576: true; the input reads as it did. -/
def turboFlipsUptoRow : OpenClaim := { program := "ytkagdiejpcfggaa", sum := "a4316aa0e552f879c6548cf69057249ba5c7fb3237495ffd4386eec424707c80", func := "userplane/userplanelaw08.TurboFlips", spec := "turboFlips", unfollowed := true, recurses := true, apart := false, narrowed := true }
def TurboFlipsUptoSaid : Prop := turboFlipsUptoRow.holds Try.pinned (OpenSpec.upto turboFlipsSpec)

/-- 'userplanelaw08.TurboHolds', WHERE WHAT IT READS IS OF BULK AT MOST 1048576: true; the input reads as it did. -/
def turboHoldsUptoRow : OpenClaim := { program := "ytkagdiejpcfggaa", sum := "a4316aa0e552f879c6548cf69057249ba5c7fb3237495ffd4386eec424707c80", func := "userplane/userplanelaw08.TurboHolds", spec := "turboHolds", unfollowed := true, recurses := true, apart := false, narrowed := true }
def TurboHoldsUptoSaid : Prop := turboHoldsUptoRow.holds Try.pinned (OpenSpec.upto turboHoldsSpec)

end Rows
end Go.Proofs.Ytkagdiejpcfggaa
