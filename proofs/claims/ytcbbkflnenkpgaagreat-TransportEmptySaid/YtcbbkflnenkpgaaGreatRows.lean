/-
  No cell of these rows narrows 'for every input' (looked for: loops, veiled, ifaces, maps, wideKeys, modest, calm, conditions, laid).
  DERIVED. THE GIVEN ROWS OF THIS SEAT. 4 by the template 'for every input the law returns true; each argument reads behind the call as it read before'; 0 by the template 'total and deterministic' (their statements: YtcbbkflnenkpgaaGreatTotals.lean).
  GIVEN WITH THE SEED: the statements are not yours to turn. If you find one false, say at which input.
  Laid BY PROGRAM, IN A SANDBOX (cutbox-rows.mjs): the forced cells as the released guide's own fill.sh prints them over the translation 042b91dc5d2adfa2… (all of the seat's roots in one cut). By AI agents, Wed Nov 11 2026. No macro, syntax, notation, axiom, sorry.
-/
import Derived.Test.YtcbbkflnenkpgaaGreatChecked
import GoSem.Claim
import GoSem.ClaimJoined
import GoSem.ClaimMapViews
import Derived.JoinedTies
import Derived.KernelRfl
namespace Go.Proofs.YtcbbkflnenkpgaaGreat
/- THE CELL 'sum', in the pinned program and in every row, IS THE sha256 OF THE DUMP (.gsa) THAT YtcbbkflnenkpgaaGreatProg.lean LOADS. Nothing in Lean hashes anything: it is a label: what it is worth is what the hold of that sum in a sandbox is worth. -/
noncomputable def Tryz.pinned : Pinned := { name := "ytcbbkflnenkpgaagreat", sum := "042b91dc5d2adfa2e14e568b34bd7e90c9d3cb1cffecb71e96bcd6167ad2cf6e", checked := Tryz.checked }
namespace Rows
def none {H : Type} : Left H := { results := [], args := [] }

/-- 'userplanelaw15.TransportWords': WHATEVER THE INPUT: true; the input reads as it did. -/
def transportWordsSpec : ChangeSpec := { name := "transportWords", fn := fun _ => fun
  | [d] => { results := [.lit (.bool true)], args := [d] }
  | _ => none }
def transportWordsRow : OpenClaim := { program := "ytcbbkflnenkpgaagreat", sum := "042b91dc5d2adfa2e14e568b34bd7e90c9d3cb1cffecb71e96bcd6167ad2cf6e", func := "userplane/userplanelaw15.TransportWords", spec := "transportWords", unfollowed := true, recurses := true, apart := false }
def TransportWordsSaid : Prop := transportWordsRow.holds Tryz.pinned (OpenSpec.ofChange transportWordsSpec)

/-- ITS FALSE NEIGHBOUR: 'it returns false'. Refute it at one input. -/
def transportWordsWrong : ChangeSpec := { name := "transportWords", fn := fun _ => fun
  | [d] => { results := [.lit (.bool false)], args := [d] }
  | _ => none }
def TransportWordsWrongFalsely : Prop := transportWordsRow.holds Tryz.pinned (OpenSpec.ofChange transportWordsWrong)

/-- 'userplanelaw15.TransportEncodes': WHATEVER THE INPUT: true; the input reads as it did. -/
def transportEncodesSpec : ChangeSpec := { name := "transportEncodes", fn := fun _ => fun
  | [d1, d2] => { results := [.lit (.bool true)], args := [d1, d2] }
  | _ => none }
def transportEncodesRow : OpenClaim := { program := "ytcbbkflnenkpgaagreat", sum := "042b91dc5d2adfa2e14e568b34bd7e90c9d3cb1cffecb71e96bcd6167ad2cf6e", func := "userplane/userplanelaw15.TransportEncodes", spec := "transportEncodes", unfollowed := true, recurses := true, apart := false }
def TransportEncodesSaid : Prop := transportEncodesRow.holds Tryz.pinned (OpenSpec.ofChange transportEncodesSpec)

/-- ITS FALSE NEIGHBOUR: 'it returns false'. Refute it at one input. -/
def transportEncodesWrong : ChangeSpec := { name := "transportEncodes", fn := fun _ => fun
  | [d1, d2] => { results := [.lit (.bool false)], args := [d1, d2] }
  | _ => none }
def TransportEncodesWrongFalsely : Prop := transportEncodesRow.holds Tryz.pinned (OpenSpec.ofChange transportEncodesWrong)

/-- 'userplanelaw15.TransportEmpty': WHATEVER THE INPUT: true; the input reads as it did. -/
def transportEmptySpec : ChangeSpec := { name := "transportEmpty", fn := fun _ => fun
  | [d1, d2, d3] => { results := [.lit (.bool true)], args := [d1, d2, d3] }
  | _ => none }
def transportEmptyRow : OpenClaim := { program := "ytcbbkflnenkpgaagreat", sum := "042b91dc5d2adfa2e14e568b34bd7e90c9d3cb1cffecb71e96bcd6167ad2cf6e", func := "userplane/userplanelaw15.TransportEmpty", spec := "transportEmpty", unfollowed := true, recurses := true, apart := false }
def TransportEmptySaid : Prop := transportEmptyRow.holds Tryz.pinned (OpenSpec.ofChange transportEmptySpec)

/-- ITS FALSE NEIGHBOUR: 'it returns false'. Refute it at one input. -/
def transportEmptyWrong : ChangeSpec := { name := "transportEmpty", fn := fun _ => fun
  | [d1, d2, d3] => { results := [.lit (.bool false)], args := [d1, d2, d3] }
  | _ => none }
def TransportEmptyWrongFalsely : Prop := transportEmptyRow.holds Tryz.pinned (OpenSpec.ofChange transportEmptyWrong)

/-- 'userplanelaw15.TransportBack': WHATEVER THE INPUT: true; the input reads as it did. -/
def transportBackSpec : ChangeSpec := { name := "transportBack", fn := fun _ => fun
  | [d1, d2, d3] => { results := [.lit (.bool true)], args := [d1, d2, d3] }
  | _ => none }
def transportBackRow : OpenClaim := { program := "ytcbbkflnenkpgaagreat", sum := "042b91dc5d2adfa2e14e568b34bd7e90c9d3cb1cffecb71e96bcd6167ad2cf6e", func := "userplane/userplanelaw15.TransportBack", spec := "transportBack", unfollowed := true, recurses := true, apart := false }
def TransportBackSaid : Prop := transportBackRow.holds Tryz.pinned (OpenSpec.ofChange transportBackSpec)

/-- ITS FALSE NEIGHBOUR: 'it returns false'. Refute it at one input. -/
def transportBackWrong : ChangeSpec := { name := "transportBack", fn := fun _ => fun
  | [d1, d2, d3] => { results := [.lit (.bool false)], args := [d1, d2, d3] }
  | _ => none }
def TransportBackWrongFalsely : Prop := transportBackRow.holds Tryz.pinned (OpenSpec.ofChange transportBackWrong)

/- THE SECOND FORM. 'bulk': how many values and letters a reading holds, each counted each time it is reached (what is shared counts as often as it is met; a slice's spare places count too). A statement '..UptoSaid' is the law's where the arguments, and the package variables that the reading takes, are together of bulk at most 1048576: NARROWER than '..Said'. Prove '..Said' where nothing that the law and all that it calls make is longer than what came in: it says more and counts as full. Else prove '..UptoSaid'. A law counts once. -/
mutual
def uptoBulk {H : Type} : DataW H → Nat
  | .lit (.string bytes) => bytes.length + 1
  | .lit _ => 1
  | .nil => 1
  | .ptr d => uptoBulk d + 1
  | .slice elems spare => uptoBulkAll elems + uptoBulkAll spare + 1
  | .agg parts => uptoBulkAll parts + 1
  | .iface _ d => uptoBulk d + 1
  | .map entries => uptoBulkEntries entries + 1
  | .held _ => 1
def uptoBulkAll {H : Type} : List (DataW H) → Nat
  | [] => 0
  | d :: r => uptoBulk d + uptoBulkAll r
def uptoBulkEntries {H : Type} : List (Lit × DataW H) → Nat
  | [] => 0
  | x :: r => uptoBulkEntry x + uptoBulkEntries r
def uptoBulkEntry {H : Type} : Lit × DataW H → Nat
  | (.string bytes, d) => bytes.length + uptoBulk d + 1
  | (_, d) => uptoBulk d + 1
 end
def uptoSmall : (H : Type) → List (DataW H) → Bool := fun _ ds => decide (uptoBulkAll ds ≤ 1048576)
def OpenSpec.upto (s : _root_.Go.ChangeSpec) : _root_.Go.OpenSpec := { _root_.Go.OpenSpec.ofChange s with cond := some uptoSmall }

/-- 'userplanelaw15.TransportWords', WHERE WHAT IT READS IS OF BULK AT MOST 1048576: true; the input reads as it did. -/
def transportWordsUptoRow : OpenClaim := { program := "ytcbbkflnenkpgaagreat", sum := "042b91dc5d2adfa2e14e568b34bd7e90c9d3cb1cffecb71e96bcd6167ad2cf6e", func := "userplane/userplanelaw15.TransportWords", spec := "transportWords", unfollowed := true, recurses := true, apart := false, narrowed := true }
def TransportWordsUptoSaid : Prop := transportWordsUptoRow.holds Tryz.pinned (OpenSpec.upto transportWordsSpec)

/-- 'userplanelaw15.TransportEncodes', WHERE WHAT IT READS IS OF BULK AT MOST 1048576: true; the input reads as it did. -/
def transportEncodesUptoRow : OpenClaim := { program := "ytcbbkflnenkpgaagreat", sum := "042b91dc5d2adfa2e14e568b34bd7e90c9d3cb1cffecb71e96bcd6167ad2cf6e", func := "userplane/userplanelaw15.TransportEncodes", spec := "transportEncodes", unfollowed := true, recurses := true, apart := false, narrowed := true }
def TransportEncodesUptoSaid : Prop := transportEncodesUptoRow.holds Tryz.pinned (OpenSpec.upto transportEncodesSpec)

/-- 'userplanelaw15.TransportEmpty', WHERE WHAT IT READS IS OF BULK AT MOST 1048576: true; the input reads as it did. -/
def transportEmptyUptoRow : OpenClaim := { program := "ytcbbkflnenkpgaagreat", sum := "042b91dc5d2adfa2e14e568b34bd7e90c9d3cb1cffecb71e96bcd6167ad2cf6e", func := "userplane/userplanelaw15.TransportEmpty", spec := "transportEmpty", unfollowed := true, recurses := true, apart := false, narrowed := true }
def TransportEmptyUptoSaid : Prop := transportEmptyUptoRow.holds Tryz.pinned (OpenSpec.upto transportEmptySpec)

/-- 'userplanelaw15.TransportBack', WHERE WHAT IT READS IS OF BULK AT MOST 1048576: true; the input reads as it did. -/
def transportBackUptoRow : OpenClaim := { program := "ytcbbkflnenkpgaagreat", sum := "042b91dc5d2adfa2e14e568b34bd7e90c9d3cb1cffecb71e96bcd6167ad2cf6e", func := "userplane/userplanelaw15.TransportBack", spec := "transportBack", unfollowed := true, recurses := true, apart := false, narrowed := true }
def TransportBackUptoSaid : Prop := transportBackUptoRow.holds Tryz.pinned (OpenSpec.upto transportBackSpec)

end Rows
end Go.Proofs.YtcbbkflnenkpgaaGreat
