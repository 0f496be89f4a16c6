/-
  No cell of these rows narrows 'for every input' (looked for: loops, veiled, ifaces, maps, wideKeys, modest, calm, conditions, laid).
  DERIVED. THE GIVEN ROWS OF THIS SEAT. 11 by the template 'for every input the law returns true; each argument reads behind the call as it read before'; 0 by the template 'total and deterministic' (their statements: YtcbbkflnenkpgaaTotals.lean).
  GIVEN WITH THE SEED: the statements are not yours to turn. If you find one false, say at which input.
  Laid BY PROGRAM, IN A SANDBOX (cutbox-rows.mjs): the forced cells as the released guide's own fill.sh prints them over the translation a4bfa003ce79ffd1… (all of the seat's roots in one cut). By AI agents, Wed Nov 11 2026. No macro, syntax, notation, axiom, sorry.
-/
import Derived.Test.YtcbbkflnenkpgaaChecked
import GoSem.Claim
import GoSem.ClaimJoined
import GoSem.ClaimMapViews
import Derived.JoinedTies
import Derived.KernelRfl
namespace Go.Proofs.Ytcbbkflnenkpgaa
/- THE CELL 'sum', in the pinned program and in every row, IS THE sha256 OF THE DUMP (.gsa) THAT YtcbbkflnenkpgaaProg.lean LOADS. Nothing in Lean hashes anything: it is a label: what it is worth is what the hold of that sum in a sandbox is worth. -/
noncomputable def Try.pinned : Pinned := { name := "ytcbbkflnenkpgaa", sum := "a4bfa003ce79ffd1eccf5145f2299c3c1a227c8b9b298c0b936f1dc65a00ee2e", checked := Try.checked }
namespace Rows
def none {H : Type} : Left H := { results := [], args := [] }

/-- 'userplanelaw15.TransportLayouts': WHATEVER THE INPUT: true; the input reads as it did. -/
def transportLayoutsSpec : ChangeSpec := { name := "transportLayouts", fn := fun _ => fun
  | [d] => { results := [.lit (.bool true)], args := [d] }
  | _ => none }
def transportLayoutsRow : OpenClaim := { program := "ytcbbkflnenkpgaa", sum := "a4bfa003ce79ffd1eccf5145f2299c3c1a227c8b9b298c0b936f1dc65a00ee2e", func := "userplane/userplanelaw15.TransportLayouts", spec := "transportLayouts", unfollowed := true, recurses := true, apart := false }
def TransportLayoutsSaid : Prop := transportLayoutsRow.holds Try.pinned (OpenSpec.ofChange transportLayoutsSpec)

/-- ITS FALSE NEIGHBOUR: 'it returns false'. Refute it at one input. -/
def transportLayoutsWrong : ChangeSpec := { name := "transportLayouts", fn := fun _ => fun
  | [d] => { results := [.lit (.bool false)], args := [d] }
  | _ => none }
def TransportLayoutsWrongFalsely : Prop := transportLayoutsRow.holds Try.pinned (OpenSpec.ofChange transportLayoutsWrong)

/-- 'userplanelaw15.TransportShares': WHATEVER THE INPUT: true; the input reads as it did. -/
def transportSharesSpec : ChangeSpec := { name := "transportShares", fn := fun _ => fun
  | [d] => { results := [.lit (.bool true)], args := [d] }
  | _ => none }
def transportSharesRow : OpenClaim := { program := "ytcbbkflnenkpgaa", sum := "a4bfa003ce79ffd1eccf5145f2299c3c1a227c8b9b298c0b936f1dc65a00ee2e", func := "userplane/userplanelaw15.TransportShares", spec := "transportShares", unfollowed := true, recurses := true, apart := false }
def TransportSharesSaid : Prop := transportSharesRow.holds Try.pinned (OpenSpec.ofChange transportSharesSpec)

/-- ITS FALSE NEIGHBOUR: 'it returns false'. Refute it at one input. -/
def transportSharesWrong : ChangeSpec := { name := "transportShares", fn := fun _ => fun
  | [d] => { results := [.lit (.bool false)], args := [d] }
  | _ => none }
def TransportSharesWrongFalsely : Prop := transportSharesRow.holds Try.pinned (OpenSpec.ofChange transportSharesWrong)

/-- 'userplanelaw15.TransportSplits': WHATEVER THE INPUT: true; the input reads as it did. -/
def transportSplitsSpec : ChangeSpec := { name := "transportSplits", fn := fun _ => fun
  | [d1, d2] => { results := [.lit (.bool true)], args := [d1, d2] }
  | _ => none }
def transportSplitsRow : OpenClaim := { program := "ytcbbkflnenkpgaa", sum := "a4bfa003ce79ffd1eccf5145f2299c3c1a227c8b9b298c0b936f1dc65a00ee2e", func := "userplane/userplanelaw15.TransportSplits", spec := "transportSplits", unfollowed := true, recurses := true, apart := false }
def TransportSplitsSaid : Prop := transportSplitsRow.holds Try.pinned (OpenSpec.ofChange transportSplitsSpec)

/-- ITS FALSE NEIGHBOUR: 'it returns false'. Refute it at one input. -/
def transportSplitsWrong : ChangeSpec := { name := "transportSplits", fn := fun _ => fun
  | [d1, d2] => { results := [.lit (.bool false)], args := [d1, d2] }
  | _ => none }
def TransportSplitsWrongFalsely : Prop := transportSplitsRow.holds Try.pinned (OpenSpec.ofChange transportSplitsWrong)

/-- 'userplanelaw05.SegmentSizes': WHATEVER THE INPUT: true; the input reads as it did. -/
def segmentSizesSpec : ChangeSpec := { name := "segmentSizes", fn := fun _ => fun
  | [d] => { results := [.lit (.bool true)], args := [d] }
  | _ => none }
def segmentSizesRow : OpenClaim := { program := "ytcbbkflnenkpgaa", sum := "a4bfa003ce79ffd1eccf5145f2299c3c1a227c8b9b298c0b936f1dc65a00ee2e", func := "userplane/userplanelaw05.SegmentSizes", spec := "segmentSizes", unfollowed := true, recurses := true, apart := false }
def SegmentSizesSaid : Prop := segmentSizesRow.holds Try.pinned (OpenSpec.ofChange segmentSizesSpec)

/-- ITS FALSE NEIGHBOUR: 'it returns false'. Refute it at one input. -/
def segmentSizesWrong : ChangeSpec := { name := "segmentSizes", fn := fun _ => fun
  | [d] => { results := [.lit (.bool false)], args := [d] }
  | _ => none }
def SegmentSizesWrongFalsely : Prop := segmentSizesRow.holds Try.pinned (OpenSpec.ofChange segmentSizesWrong)

/-- 'userplanelaw05.SegmentPlans': WHATEVER THE INPUT: true; the input reads as it did. -/
def segmentPlansSpec : ChangeSpec := { name := "segmentPlans", fn := fun _ => fun
  | [d] => { results := [.lit (.bool true)], args := [d] }
  | _ => none }
def segmentPlansRow : OpenClaim := { program := "ytcbbkflnenkpgaa", sum := "a4bfa003ce79ffd1eccf5145f2299c3c1a227c8b9b298c0b936f1dc65a00ee2e", func := "userplane/userplanelaw05.SegmentPlans", spec := "segmentPlans", unfollowed := true, recurses := true, apart := false }
def SegmentPlansSaid : Prop := segmentPlansRow.holds Try.pinned (OpenSpec.ofChange segmentPlansSpec)

/-- ITS FALSE NEIGHBOUR: 'it returns false'. Refute it at one input. -/
def segmentPlansWrong : ChangeSpec := { name := "segmentPlans", fn := fun _ => fun
  | [d] => { results := [.lit (.bool false)], args := [d] }
  | _ => none }
def SegmentPlansWrongFalsely : Prop := segmentPlansRow.holds Try.pinned (OpenSpec.ofChange segmentPlansWrong)

/-- 'userplanelaw05.SegmentSplits': WHATEVER THE INPUT: true; the input reads as it did. -/
def segmentSplitsSpec : ChangeSpec := { name := "segmentSplits", fn := fun _ => fun
  | [d] => { results := [.lit (.bool true)], args := [d] }
  | _ => none }
def segmentSplitsRow : OpenClaim := { program := "ytcbbkflnenkpgaa", sum := "a4bfa003ce79ffd1eccf5145f2299c3c1a227c8b9b298c0b936f1dc65a00ee2e", func := "userplane/userplanelaw05.SegmentSplits", spec := "segmentSplits", unfollowed := true, recurses := true, apart := false }
def SegmentSplitsSaid : Prop := segmentSplitsRow.holds Try.pinned (OpenSpec.ofChange segmentSplitsSpec)

/-- ITS FALSE NEIGHBOUR: 'it returns false'. Refute it at one input. -/
def segmentSplitsWrong : ChangeSpec := { name := "segmentSplits", fn := fun _ => fun
  | [d] => { results := [.lit (.bool false)], args := [d] }
  | _ => none }
def SegmentSplitsWrongFalsely : Prop := segmentSplitsRow.holds Try.pinned (OpenSpec.ofChange segmentSplitsWrong)

/-- 'userplanelaw05.SegmentJoins': WHATEVER THE INPUT: true; the input reads as it did. -/
def segmentJoinsSpec : ChangeSpec := { name := "segmentJoins", fn := fun _ => fun
  | [d1, d2, d3, d4, d5, d6] => { results := [.lit (.bool true)], args := [d1, d2, d3, d4, d5, d6] }
  | _ => none }
def segmentJoinsRow : OpenClaim := { program := "ytcbbkflnenkpgaa", sum := "a4bfa003ce79ffd1eccf5145f2299c3c1a227c8b9b298c0b936f1dc65a00ee2e", func := "userplane/userplanelaw05.SegmentJoins", spec := "segmentJoins", unfollowed := true, recurses := true, apart := false }
def SegmentJoinsSaid : Prop := segmentJoinsRow.holds Try.pinned (OpenSpec.ofChange segmentJoinsSpec)

/-- ITS FALSE NEIGHBOUR: 'it returns false'. Refute it at one input. -/
def segmentJoinsWrong : ChangeSpec := { name := "segmentJoins", fn := fun _ => fun
  | [d1, d2, d3, d4, d5, d6] => { results := [.lit (.bool false)], args := [d1, d2, d3, d4, d5, d6] }
  | _ => none }
def SegmentJoinsWrongFalsely : Prop := segmentJoinsRow.holds Try.pinned (OpenSpec.ofChange segmentJoinsWrong)

/-- 'userplanelaw05.SegmentBounds': WHATEVER THE INPUT: true; the input reads as it did. -/
def segmentBoundsSpec : ChangeSpec := { name := "segmentBounds", fn := fun _ => fun
  | [d1, d2] => { results := [.lit (.bool true)], args := [d1, d2] }
  | _ => none }
def segmentBoundsRow : OpenClaim := { program := "ytcbbkflnenkpgaa", sum := "a4bfa003ce79ffd1eccf5145f2299c3c1a227c8b9b298c0b936f1dc65a00ee2e", func := "userplane/userplanelaw05.SegmentBounds", spec := "segmentBounds", unfollowed := true, recurses := true, apart := false }
def SegmentBoundsSaid : Prop := segmentBoundsRow.holds Try.pinned (OpenSpec.ofChange segmentBoundsSpec)

/-- ITS FALSE NEIGHBOUR: 'it returns false'. Refute it at one input. -/
def segmentBoundsWrong : ChangeSpec := { name := "segmentBounds", fn := fun _ => fun
  | [d1, d2] => { results := [.lit (.bool false)], args := [d1, d2] }
  | _ => none }
def SegmentBoundsWrongFalsely : Prop := segmentBoundsRow.holds Try.pinned (OpenSpec.ofChange segmentBoundsWrong)

/-- 'userplanelaw05.SegmentHolds': WHATEVER THE INPUT: true; the input reads as it did. -/
def segmentHoldsSpec : ChangeSpec := { name := "segmentHolds", fn := fun _ => fun
  | [d1, d2, d3] => { results := [.lit (.bool true)], args := [d1, d2, d3] }
  | _ => none }
def segmentHoldsRow : OpenClaim := { program := "ytcbbkflnenkpgaa", sum := "a4bfa003ce79ffd1eccf5145f2299c3c1a227c8b9b298c0b936f1dc65a00ee2e", func := "userplane/userplanelaw05.SegmentHolds", spec := "segmentHolds", unfollowed := true, recurses := true, apart := false }
def SegmentHoldsSaid : Prop := segmentHoldsRow.holds Try.pinned (OpenSpec.ofChange segmentHoldsSpec)

/-- ITS FALSE NEIGHBOUR: 'it returns false'. Refute it at one input. -/
def segmentHoldsWrong : ChangeSpec := { name := "segmentHolds", fn := fun _ => fun
  | [d1, d2, d3] => { results := [.lit (.bool false)], args := [d1, d2, d3] }
  | _ => none }
def SegmentHoldsWrongFalsely : Prop := segmentHoldsRow.holds Try.pinned (OpenSpec.ofChange segmentHoldsWrong)

/-- 'userplanelaw05.SegmentEach': WHATEVER THE INPUT: true; the input reads as it did. -/
def segmentEachSpec : ChangeSpec := { name := "segmentEach", fn := fun _ => fun
  | [d1, d2] => { results := [.lit (.bool true)], args := [d1, d2] }
  | _ => none }
def segmentEachRow : OpenClaim := { program := "ytcbbkflnenkpgaa", sum := "a4bfa003ce79ffd1eccf5145f2299c3c1a227c8b9b298c0b936f1dc65a00ee2e", func := "userplane/userplanelaw05.SegmentEach", spec := "segmentEach", unfollowed := true, recurses := true, apart := false }
def SegmentEachSaid : Prop := segmentEachRow.holds Try.pinned (OpenSpec.ofChange segmentEachSpec)

/-- ITS FALSE NEIGHBOUR: 'it returns false'. Refute it at one input. -/
def segmentEachWrong : ChangeSpec := { name := "segmentEach", fn := fun _ => fun
  | [d1, d2] => { results := [.lit (.bool false)], args := [d1, d2] }
  | _ => none }
def SegmentEachWrongFalsely : Prop := segmentEachRow.holds Try.pinned (OpenSpec.ofChange segmentEachWrong)

/-- 'userplanelaw15.TransportJoins': WHATEVER THE INPUT: true; the input reads as it did. -/
def transportJoinsSpec : ChangeSpec := { name := "transportJoins", fn := fun _ => fun
  | [d1, d2, d3, d4, d5] => { results := [.lit (.bool true)], args := [d1, d2, d3, d4, d5] }
  | _ => none }
def transportJoinsRow : OpenClaim := { program := "ytcbbkflnenkpgaa", sum := "a4bfa003ce79ffd1eccf5145f2299c3c1a227c8b9b298c0b936f1dc65a00ee2e", func := "userplane/userplanelaw15.TransportJoins", spec := "transportJoins", unfollowed := true, recurses := true, apart := false }
def TransportJoinsSaid : Prop := transportJoinsRow.holds Try.pinned (OpenSpec.ofChange transportJoinsSpec)

/-- ITS FALSE NEIGHBOUR: 'it returns false'. Refute it at one input. -/
def transportJoinsWrong : ChangeSpec := { name := "transportJoins", fn := fun _ => fun
  | [d1, d2, d3, d4, d5] => { results := [.lit (.bool false)], args := [d1, d2, d3, d4, d5] }
  | _ => none }
def TransportJoinsWrongFalsely : Prop := transportJoinsRow.holds Try.pinned (OpenSpec.ofChange transportJoinsWrong)

/- THE SECOND FORM. 'bulk': how many values and letters a reading holds, each counted each time it is reached (what is shared counts as often as it is met; a slice's spare places count too). A statement '..UptoSaid' is the law's where the arguments, and the package variables that the reading takes, are together of bulk at most 1048576: NARROWER than '..Said'. Prove '..Said' where nothing that the law and all that it calls make is longer than what came in: it says more and counts as full. Else prove '..UptoSaid'. A law counts once. -/
mutual
def uptoBulk {H : Type} : DataW H → Nat
  | .lit (.string bytes) => bytes.length + 1
  | .lit _ => 1
  | .nil => 1
  | .ptr d => uptoBulk d + 1
  | .slice elems spare => uptoBulkAll elems + uptoBulkAll spare + 1
  | .agg parts => uptoBulkAll parts + 1
  | .iface _ d => uptoBulk d + 1
  | .map entries => uptoBulkEntries entries + 1
  | .held _ => 1
def uptoBulkAll {H : Type} : List (DataW H) → Nat
  | [] => 0
  | d :: r => uptoBulk d + uptoBulkAll r
def uptoBulkEntries {H : Type} : List (Lit × DataW H) → Nat
  | [] => 0
  | x :: r => uptoBulkEntry x + uptoBulkEntries r
def uptoBulkEntry {H : Type} : Lit × DataW H → Nat
  | (.string bytes, d) => bytes.length + uptoBulk d + 1
  | (_, d) => uptoBulk d + 1
 end
def uptoSmall : (H : Type) → List (DataW H) → Bool := fun _ ds => decide (uptoBulkAll ds ≤ 1048576)
def OpenSpec.upto (s : _root_.Go.ChangeSpec) : _root_.Go.OpenSpec := { _root_.Go.OpenSpec.ofChange s with cond := some uptoSmall }

/-- 'userplanelaw15.TransportLayouts', WHERE WHAT IT READS IS OF BULK AT MOST 1048576: true; the input reads as it did. -/
def transportLayoutsUptoRow : OpenClaim := { program := "ytcbbkflnenkpgaa", sum := "a4bfa003ce79ffd1eccf5145f2299c3c1a227c8b9b298c0b936f1dc65a00ee2e", func := "userplane/userplanelaw15.TransportLayouts", spec := "transportLayouts", unfollowed := true, recurses := true, apart := false, narrowed := true }
def TransportLayoutsUptoSaid : Prop := transportLayoutsUptoRow.holds Try.pinned (OpenSpec.upto transportLayoutsSpec)

/-- 'userplanelaw15.TransportShares', WHERE WHAT IT READS IS OF BULK AT MOST 1048576: true; the input reads as it did. -/
def transportSharesUptoRow : OpenClaim := { program := "ytcbbkflnenkpgaa", sum := "a4bfa003ce79ffd1eccf5145f2299c3c1a227c8b9b298c0b936f1dc65a00ee2e", func := "userplane/userplanelaw15.TransportShares", spec := "transportShares", unfollowed := true, recurses := true, apart := false, narrowed := true }
def TransportSharesUptoSaid : Prop := transportSharesUptoRow.holds Try.pinned (OpenSpec.upto transportSharesSpec)

/-- 'userplanelaw15.TransportSplits', WHERE WHAT IT READS IS OF BULK AT MOST 1048576: true; the input reads as it did. -/
def transportSplitsUptoRow : OpenClaim := { program := "ytcbbkflnenkpgaa", sum := "a4bfa003ce79ffd1eccf5145f2299c3c1a227c8b9b298c0b936f1dc65a00ee2e", func := "userplane/userplanelaw15.TransportSplits", spec := "transportSplits", unfollowed := true, recurses := true, apart := false, narrowed := true }
def TransportSplitsUptoSaid : Prop := transportSplitsUptoRow.holds Try.pinned (OpenSpec.upto transportSplitsSpec)

/-- 'userplanelaw05.SegmentSizes', WHERE WHAT IT READS IS OF BULK AT MOST 1048576: true; the input reads as it did. -/
def segmentSizesUptoRow : OpenClaim := { program := "ytcbbkflnenkpgaa", sum := "a4bfa003ce79ffd1eccf5145f2299c3c1a227c8b9b298c0b936f1dc65a00ee2e", func := "userplane/userplanelaw05.SegmentSizes", spec := "segmentSizes", unfollowed := true, recurses := true, apart := false, narrowed := true }
def SegmentSizesUptoSaid : Prop := segmentSizesUptoRow.holds Try.pinned (OpenSpec.upto segmentSizesSpec)

/-- 'userplanelaw05.SegmentPlans', WHERE WHAT IT READS IS OF BULK AT MOST 1048576: true; the input reads as it did. -/
def segmentPlansUptoRow : OpenClaim := { program := "ytcbbkflnenkpgaa", sum := "a4bfa003ce79ffd1eccf5145f2299c3c1a227c8b9b298c0b936f1dc65a00ee2e", func := "userplane/userplanelaw05.SegmentPlans", spec := "segmentPlans", unfollowed := true, recurses := true, apart := false, narrowed := true }
def SegmentPlansUptoSaid : Prop := segmentPlansUptoRow.holds Try.pinned (OpenSpec.upto segmentPlansSpec)

/-- 'userplanelaw05.SegmentSplits', WHERE WHAT IT READS IS OF BULK AT MOST 1048576: true; the input reads as it did. -/
def segmentSplitsUptoRow : OpenClaim := { program := "ytcbbkflnenkpgaa", sum := "a4bfa003ce79ffd1eccf5145f2299c3c1a227c8b9b298c0b936f1dc65a00ee2e", func := "userplane/userplanelaw05.SegmentSplits", spec := "segmentSplits", unfollowed := true, recurses := true, apart := false, narrowed := true }
def SegmentSplitsUptoSaid : Prop := segmentSplitsUptoRow.holds Try.pinned (OpenSpec.upto segmentSplitsSpec)

/-- 'userplanelaw05.SegmentJoins', WHERE WHAT IT READS IS OF BULK AT MOST 1048576: true; the input reads as it did. -/
def segmentJoinsUptoRow : OpenClaim := { program := "ytcbbkflnenkpgaa", sum := "a4bfa003ce79ffd1eccf5145f2299c3c1a227c8b9b298c0b936f1dc65a00ee2e", func := "userplane/userplanelaw05.SegmentJoins", spec := "segmentJoins", unfollowed := true, recurses := true, apart := false, narrowed := true }
def SegmentJoinsUptoSaid : Prop := segmentJoinsUptoRow.holds Try.pinned (OpenSpec.upto segmentJoinsSpec)

/-- 'userplanelaw05.SegmentBounds', WHERE WHAT IT READS IS OF BULK AT MOST 1048576: true; the input reads as it did. -/
def segmentBoundsUptoRow : OpenClaim := { program := "ytcbbkflnenkpgaa", sum := "a4bfa003ce79ffd1eccf5145f2299c3c1a227c8b9b298c0b936f1dc65a00ee2e", func := "userplane/userplanelaw05.SegmentBounds", spec := "segmentBounds", unfollowed := true, recurses := true, apart := false, narrowed := true }
def SegmentBoundsUptoSaid : Prop := segmentBoundsUptoRow.holds Try.pinned (OpenSpec.upto segmentBoundsSpec)

/-- 'userplanelaw05.SegmentHolds', WHERE WHAT IT READS IS OF BULK AT MOST 1048576: true; the input reads as it did. -/
def segmentHoldsUptoRow : OpenClaim := { program := "ytcbbkflnenkpgaa", sum := "a4bfa003ce79ffd1eccf5145f2299c3c1a227c8b9b298c0b936f1dc65a00ee2e", func := "userplane/userplanelaw05.SegmentHolds", spec := "segmentHolds", unfollowed := true, recurses := true, apart := false, narrowed := true }
def SegmentHoldsUptoSaid : Prop := segmentHoldsUptoRow.holds Try.pinned (OpenSpec.upto segmentHoldsSpec)

/-- 'userplanelaw05.SegmentEach', WHERE WHAT IT READS IS OF BULK AT MOST 1048576: true; the input reads as it did. -/
def segmentEachUptoRow : OpenClaim := { program := "ytcbbkflnenkpgaa", sum := "a4bfa003ce79ffd1eccf5145f2299c3c1a227c8b9b298c0b936f1dc65a00ee2e", func := "userplane/userplanelaw05.SegmentEach", spec := "segmentEach", unfollowed := true, recurses := true, apart := false, narrowed := true }
def SegmentEachUptoSaid : Prop := segmentEachUptoRow.holds Try.pinned (OpenSpec.upto segmentEachSpec)

/-- 'userplanelaw15.TransportJoins', WHERE WHAT IT READS IS OF BULK AT MOST 1048576: true; the input reads as it did. -/
def transportJoinsUptoRow : OpenClaim := { program := "ytcbbkflnenkpgaa", sum := "a4bfa003ce79ffd1eccf5145f2299c3c1a227c8b9b298c0b936f1dc65a00ee2e", func := "userplane/userplanelaw15.TransportJoins", spec := "transportJoins", unfollowed := true, recurses := true, apart := false, narrowed := true }
def TransportJoinsUptoSaid : Prop := transportJoinsUptoRow.holds Try.pinned (OpenSpec.upto transportJoinsSpec)

end Rows
end Go.Proofs.Ytcbbkflnenkpgaa
