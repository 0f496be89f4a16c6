/-
  No cell of these rows narrows 'for every input' (looked for: loops, veiled, ifaces, maps, wideKeys, modest, calm, conditions, laid).
  DERIVED. THE GIVEN ROWS OF THIS SEAT. 7 by the template 'for every input the law returns true; each argument reads behind the call as it read before'; 0 by the template 'total and deterministic' (their statements: YthmhogdceolkdaaGreatTotals.lean).
  GIVEN WITH THE SEED: the statements are not yours to turn. If you find one false, say at which input.
  Laid BY PROGRAM, IN A SANDBOX (cutbox-rows.mjs): the forced cells as the released guide's own fill.sh prints them over the translation 7cd0e2c8844364a0… (all of the seat's roots in one cut). By AI agents, Wed Nov 11 2026. No macro, syntax, notation, axiom, sorry.
-/
import Derived.Test.YthmhogdceolkdaaGreatChecked
import GoSem.Claim
import GoSem.ClaimJoined
import GoSem.ClaimMapViews
import Derived.JoinedTies
import Derived.KernelRfl
namespace Go.Proofs.YthmhogdceolkdaaGreat
/- THE CELL 'sum', in the pinned program and in every row, IS THE sha256 OF THE DUMP (.gsa) THAT YthmhogdceolkdaaGreatProg.lean LOADS. Nothing in Lean hashes anything: it is a label: what it is worth is what the hold of that sum in a sandbox is worth. -/
noncomputable def Tryz.pinned : Pinned := { name := "ythmhogdceolkdaagreat", sum := "7cd0e2c8844364a0531fd8e6324bc74eda17a246e3da4f3c9991d67ccda95739", checked := Tryz.checked }
namespace Rows
def none {H : Type} : Left H := { results := [], args := [] }

/-- 'userplanelaw19.PhyRooms': WHATEVER THE INPUT: true; the input reads as it did. -/
def phyRoomsSpec : ChangeSpec := { name := "phyRooms", fn := fun _ => fun
  | [d1, d2, d3, d4, d5, d6] => { results := [.lit (.bool true)], args := [d1, d2, d3, d4, d5, d6] }
  | _ => none }
def phyRoomsRow : OpenClaim := { program := "ythmhogdceolkdaagreat", sum := "7cd0e2c8844364a0531fd8e6324bc74eda17a246e3da4f3c9991d67ccda95739", func := "userplane/userplanelaw19.PhyRooms", spec := "phyRooms", unfollowed := true, recurses := true, apart := false }
def PhyRoomsSaid : Prop := phyRoomsRow.holds Tryz.pinned (OpenSpec.ofChange phyRoomsSpec)

/-- ITS FALSE NEIGHBOUR: 'it returns false'. Refute it at one input. -/
def phyRoomsWrong : ChangeSpec := { name := "phyRooms", fn := fun _ => fun
  | [d1, d2, d3, d4, d5, d6] => { results := [.lit (.bool false)], args := [d1, d2, d3, d4, d5, d6] }
  | _ => none }
def PhyRoomsWrongFalsely : Prop := phyRoomsRow.holds Tryz.pinned (OpenSpec.ofChange phyRoomsWrong)

/-- 'userplanelaw19.PhyDecodes': WHATEVER THE INPUT: true; the input reads as it did. -/
def phyDecodesSpec : ChangeSpec := { name := "phyDecodes", fn := fun _ => fun
  | [d1, d2, d3] => { results := [.lit (.bool true)], args := [d1, d2, d3] }
  | _ => none }
def phyDecodesRow : OpenClaim := { program := "ythmhogdceolkdaagreat", sum := "7cd0e2c8844364a0531fd8e6324bc74eda17a246e3da4f3c9991d67ccda95739", func := "userplane/userplanelaw19.PhyDecodes", spec := "phyDecodes", unfollowed := true, recurses := true, apart := false }
def PhyDecodesSaid : Prop := phyDecodesRow.holds Tryz.pinned (OpenSpec.ofChange phyDecodesSpec)

/-- ITS FALSE NEIGHBOUR: 'it returns false'. Refute it at one input. -/
def phyDecodesWrong : ChangeSpec := { name := "phyDecodes", fn := fun _ => fun
  | [d1, d2, d3] => { results := [.lit (.bool false)], args := [d1, d2, d3] }
  | _ => none }
def PhyDecodesWrongFalsely : Prop := phyDecodesRow.holds Tryz.pinned (OpenSpec.ofChange phyDecodesWrong)

/-- 'userplanelaw19.PhyNone': WHATEVER THE INPUT: true; the input reads as it did. -/
def phyNoneSpec : ChangeSpec := { name := "phyNone", fn := fun _ => fun
  | [d1, d2, d3, d4] => { results := [.lit (.bool true)], args := [d1, d2, d3, d4] }
  | _ => none }
def phyNoneRow : OpenClaim := { program := "ythmhogdceolkdaagreat", sum := "7cd0e2c8844364a0531fd8e6324bc74eda17a246e3da4f3c9991d67ccda95739", func := "userplane/userplanelaw19.PhyNone", spec := "phyNone", unfollowed := true, recurses := true, apart := false }
def PhyNoneSaid : Prop := phyNoneRow.holds Tryz.pinned (OpenSpec.ofChange phyNoneSpec)

/-- ITS FALSE NEIGHBOUR: 'it returns false'. Refute it at one input. -/
def phyNoneWrong : ChangeSpec := { name := "phyNone", fn := fun _ => fun
  | [d1, d2, d3, d4] => { results := [.lit (.bool false)], args := [d1, d2, d3, d4] }
  | _ => none }
def PhyNoneWrongFalsely : Prop := phyNoneRow.holds Tryz.pinned (OpenSpec.ofChange phyNoneWrong)

/-- 'userplanelaw19.PhyApart': WHATEVER THE INPUT: true; the input reads as it did. -/
def phyApartSpec : ChangeSpec := { name := "phyApart", fn := fun _ => fun
  | [d1, d2, d3, d4, d5, d6, d7] => { results := [.lit (.bool true)], args := [d1, d2, d3, d4, d5, d6, d7] }
  | _ => none }
def phyApartRow : OpenClaim := { program := "ythmhogdceolkdaagreat", sum := "7cd0e2c8844364a0531fd8e6324bc74eda17a246e3da4f3c9991d67ccda95739", func := "userplane/userplanelaw19.PhyApart", spec := "phyApart", unfollowed := true, recurses := true, apart := false }
def PhyApartSaid : Prop := phyApartRow.holds Tryz.pinned (OpenSpec.ofChange phyApartSpec)

/-- ITS FALSE NEIGHBOUR: 'it returns false'. Refute it at one input. -/
def phyApartWrong : ChangeSpec := { name := "phyApart", fn := fun _ => fun
  | [d1, d2, d3, d4, d5, d6, d7] => { results := [.lit (.bool false)], args := [d1, d2, d3, d4, d5, d6, d7] }
  | _ => none }
def PhyApartWrongFalsely : Prop := phyApartRow.holds Tryz.pinned (OpenSpec.ofChange phyApartWrong)

/-- 'userplanelaw19.PhyPoints': WHATEVER THE INPUT: true; the input reads as it did. -/
def phyPointsSpec : ChangeSpec := { name := "phyPoints", fn := fun _ => fun
  | [d1, d2, d3, d4, d5] => { results := [.lit (.bool true)], args := [d1, d2, d3, d4, d5] }
  | _ => none }
def phyPointsRow : OpenClaim := { program := "ythmhogdceolkdaagreat", sum := "7cd0e2c8844364a0531fd8e6324bc74eda17a246e3da4f3c9991d67ccda95739", func := "userplane/userplanelaw19.PhyPoints", spec := "phyPoints", unfollowed := true, recurses := true, apart := false }
def PhyPointsSaid : Prop := phyPointsRow.holds Tryz.pinned (OpenSpec.ofChange phyPointsSpec)

/-- ITS FALSE NEIGHBOUR: 'it returns false'. Refute it at one input. -/
def phyPointsWrong : ChangeSpec := { name := "phyPoints", fn := fun _ => fun
  | [d1, d2, d3, d4, d5] => { results := [.lit (.bool false)], args := [d1, d2, d3, d4, d5] }
  | _ => none }
def PhyPointsWrongFalsely : Prop := phyPointsRow.holds Tryz.pinned (OpenSpec.ofChange phyPointsWrong)

/-- 'userplanelaw19.PhyHolds': WHATEVER THE INPUT: true; the input reads as it did. -/
def phyHoldsSpec : ChangeSpec := { name := "phyHolds", fn := fun _ => fun
  | [d1, d2, d3, d4, d5, d6, d7, d8] => { results := [.lit (.bool true)], args := [d1, d2, d3, d4, d5, d6, d7, d8] }
  | _ => none }
def phyHoldsRow : OpenClaim := { program := "ythmhogdceolkdaagreat", sum := "7cd0e2c8844364a0531fd8e6324bc74eda17a246e3da4f3c9991d67ccda95739", func := "userplane/userplanelaw19.PhyHolds", spec := "phyHolds", unfollowed := true, recurses := true, apart := false }
def PhyHoldsSaid : Prop := phyHoldsRow.holds Tryz.pinned (OpenSpec.ofChange phyHoldsSpec)

/-- ITS FALSE NEIGHBOUR: 'it returns false'. Refute it at one input. -/
def phyHoldsWrong : ChangeSpec := { name := "phyHolds", fn := fun _ => fun
  | [d1, d2, d3, d4, d5, d6, d7, d8] => { results := [.lit (.bool false)], args := [d1, d2, d3, d4, d5, d6, d7, d8] }
  | _ => none }
def PhyHoldsWrongFalsely : Prop := phyHoldsRow.holds Tryz.pinned (OpenSpec.ofChange phyHoldsWrong)

/-- 'userplanelaw19.PhySends': WHATEVER THE INPUT: true; the input reads as it did. -/
def phySendsSpec : ChangeSpec := { name := "phySends", fn := fun _ => fun
  | [d1, d2, d3, d4, d5, d6, d7] => { results := [.lit (.bool true)], args := [d1, d2, d3, d4, d5, d6, d7] }
  | _ => none }
def phySendsRow : OpenClaim := { program := "ythmhogdceolkdaagreat", sum := "7cd0e2c8844364a0531fd8e6324bc74eda17a246e3da4f3c9991d67ccda95739", func := "userplane/userplanelaw19.PhySends", spec := "phySends", unfollowed := true, recurses := true, apart := false }
def PhySendsSaid : Prop := phySendsRow.holds Tryz.pinned (OpenSpec.ofChange phySendsSpec)

/-- ITS FALSE NEIGHBOUR: 'it returns false'. Refute it at one input. -/
def phySendsWrong : ChangeSpec := { name := "phySends", fn := fun _ => fun
  | [d1, d2, d3, d4, d5, d6, d7] => { results := [.lit (.bool false)], args := [d1, d2, d3, d4, d5, d6, d7] }
  | _ => none }
def PhySendsWrongFalsely : Prop := phySendsRow.holds Tryz.pinned (OpenSpec.ofChange phySendsWrong)

/- THE SECOND FORM. 'bulk': how many values and letters a reading holds, each counted each time it is reached (what is shared counts as often as it is met; a slice's spare places count too). A statement '..UptoSaid' is the law's where the arguments, and the package variables that the reading takes, are together of bulk at most 1048576: NARROWER than '..Said'. Prove '..Said' where nothing that the law and all that it calls make is longer than what came in: it says more and counts as full. Else prove '..UptoSaid'. A law counts once. -/
mutual
def uptoBulk {H : Type} : DataW H → Nat
  | .lit (.string bytes) => bytes.length + 1
  | .lit _ => 1
  | .nil => 1
  | .ptr d => uptoBulk d + 1
  | .slice elems spare => uptoBulkAll elems + uptoBulkAll spare + 1
  | .agg parts => uptoBulkAll parts + 1
  | .iface _ d => uptoBulk d + 1
  | .map entries => uptoBulkEntries entries + 1
  | .held _ => 1
def uptoBulkAll {H : Type} : List (DataW H) → Nat
  | [] => 0
  | d :: r => uptoBulk d + uptoBulkAll r
def uptoBulkEntries {H : Type} : List (Lit × DataW H) → Nat
  | [] => 0
  | x :: r => uptoBulkEntry x + uptoBulkEntries r
def uptoBulkEntry {H : Type} : Lit × DataW H → Nat
  | (.string bytes, d) => bytes.length + uptoBulk d + 1
  | (_, d) => uptoBulk d + 1
 end
def uptoSmall : (H : Type) → List (DataW H) → Bool := fun _ ds => decide (uptoBulkAll ds ≤ 1048576)
def OpenSpec.upto (s : _root_.Go.ChangeSpec) : _root_.Go.OpenSpec := { _root_.Go.OpenSpec.ofChange s with cond := some uptoSmall }

/-- 'userplanelaw19.PhyRooms', WHERE WHAT IT READS IS OF BULK AT MOST 1048576: true; the input reads as it did. -/
def phyRoomsUptoRow : OpenClaim := { program := "ythmhogdceolkdaagreat", sum := "7cd0e2c8844364a0531fd8e6324bc74eda17a246e3da4f3c9991d67ccda95739", func := "userplane/userplanelaw19.PhyRooms", spec := "phyRooms", unfollowed := true, recurses := true, apart := false, narrowed := true }
def PhyRoomsUptoSaid : Prop := phyRoomsUptoRow.holds Tryz.pinned (OpenSpec.upto phyRoomsSpec)

/-- 'userplanelaw19.PhyDecodes', WHERE WHAT IT READS IS OF BULK AT MOST 1048576: true; the input reads as it did. -/
def phyDecodesUptoRow : OpenClaim := { program := "ythmhogdceolkdaagreat", sum := "7cd0e2c8844364a0531fd8e6324bc74eda17a246e3da4f3c9991d67ccda95739", func := "userplane/userplanelaw19.PhyDecodes", spec := "phyDecodes", unfollowed := true, recurses := true, apart := false, narrowed := true }
def PhyDecodesUptoSaid : Prop := phyDecodesUptoRow.holds Tryz.pinned (OpenSpec.upto phyDecodesSpec)

/-- 'userplanelaw19.PhyNone', WHERE WHAT IT READS IS OF BULK AT MOST 1048576: true; the input reads as it did. -/
def phyNoneUptoRow : OpenClaim := { program := "ythmhogdceolkdaagreat", sum := "7cd0e2c8844364a0531fd8e6324bc74eda17a246e3da4f3c9991d67ccda95739", func := "userplane/userplanelaw19.PhyNone", spec := "phyNone", unfollowed := true, recurses := true, apart := false, narrowed := true }
def PhyNoneUptoSaid : Prop := phyNoneUptoRow.holds Tryz.pinned (OpenSpec.upto phyNoneSpec)

/-- 'userplanelaw19.PhyApart', WHERE WHAT IT READS IS OF BULK AT MOST 1048576: true; the input reads as it did. -/
def phyApartUptoRow : OpenClaim := { program := "ythmhogdceolkdaagreat", sum := "7cd0e2c8844364a0531fd8e6324bc74eda17a246e3da4f3c9991d67ccda95739", func := "userplane/userplanelaw19.PhyApart", spec := "phyApart", unfollowed := true, recurses := true, apart := false, narrowed := true }
def PhyApartUptoSaid : Prop := phyApartUptoRow.holds Tryz.pinned (OpenSpec.upto phyApartSpec)

/-- 'userplanelaw19.PhyPoints', WHERE WHAT IT READS IS OF BULK AT MOST 1048576: true; the input reads as it did. -/
def phyPointsUptoRow : OpenClaim := { program := "ythmhogdceolkdaagreat", sum := "7cd0e2c8844364a0531fd8e6324bc74eda17a246e3da4f3c9991d67ccda95739", func := "userplane/userplanelaw19.PhyPoints", spec := "phyPoints", unfollowed := true, recurses := true, apart := false, narrowed := true }
def PhyPointsUptoSaid : Prop := phyPointsUptoRow.holds Tryz.pinned (OpenSpec.upto phyPointsSpec)

/-- 'userplanelaw19.PhyHolds', WHERE WHAT IT READS IS OF BULK AT MOST 1048576: true; the input reads as it did. -/
def phyHoldsUptoRow : OpenClaim := { program := "ythmhogdceolkdaagreat", sum := "7cd0e2c8844364a0531fd8e6324bc74eda17a246e3da4f3c9991d67ccda95739", func := "userplane/userplanelaw19.PhyHolds", spec := "phyHolds", unfollowed := true, recurses := true, apart := false, narrowed := true }
def PhyHoldsUptoSaid : Prop := phyHoldsUptoRow.holds Tryz.pinned (OpenSpec.upto phyHoldsSpec)

/-- 'userplanelaw19.PhySends', WHERE WHAT IT READS IS OF BULK AT MOST 1048576: true; the input reads as it did. -/
def phySendsUptoRow : OpenClaim := { program := "ythmhogdceolkdaagreat", sum := "7cd0e2c8844364a0531fd8e6324bc74eda17a246e3da4f3c9991d67ccda95739", func := "userplane/userplanelaw19.PhySends", spec := "phySends", unfollowed := true, recurses := true, apart := false, narrowed := true }
def PhySendsUptoSaid : Prop := phySendsUptoRow.holds Tryz.pinned (OpenSpec.upto phySendsSpec)

end Rows
end Go.Proofs.YthmhogdceolkdaaGreat
