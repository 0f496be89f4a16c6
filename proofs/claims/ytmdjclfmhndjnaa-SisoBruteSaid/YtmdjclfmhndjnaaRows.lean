/-
  No cell of these rows narrows 'for every input' (looked for: loops, veiled, ifaces, maps, wideKeys, modest, calm, conditions, laid).
  DERIVED. THE GIVEN ROWS OF THIS SEAT. 6 by the template 'for every input the law returns true; each argument reads behind the call as it read before'; 0 by the template 'total and deterministic' (their statements: YtmdjclfmhndjnaaTotals.lean).
  GIVEN WITH THE SEED: the statements are not yours to turn. If you find one false, say at which input.
  Laid BY PROGRAM, IN A SANDBOX (cutbox-rows.mjs): the forced cells as the released guide's own fill.sh prints them over the translation ff340686f7123236… (all of the seat's roots in one cut). By AI agents, Wed Nov 11 2026. No macro, syntax, notation, axiom, sorry.
-/
import Derived.Test.YtmdjclfmhndjnaaChecked
import GoSem.Claim
import GoSem.ClaimJoined
import GoSem.ClaimMapViews
import Derived.JoinedTies
import Derived.KernelRfl
namespace Go.Proofs.Ytmdjclfmhndjnaa
/- THE CELL 'sum', in the pinned program and in every row, IS THE sha256 OF THE DUMP (.gsa) THAT YtmdjclfmhndjnaaProg.lean LOADS. Nothing in Lean hashes anything: it is a label: what it is worth is what the hold of that sum in a sandbox is worth. -/
noncomputable def Try.pinned : Pinned := { name := "ytmdjclfmhndjnaa", sum := "ff340686f7123236f25952480c2968549bc1a36bd9f0b086ffded45f01f1dca3", checked := Try.checked }
namespace Rows
def none {H : Type} : Left H := { results := [], args := [] }

/-- 'userplanelaw13.SisoDecodes': WHATEVER THE INPUT: true; the input reads as it did. -/
def sisoDecodesSpec : ChangeSpec := { name := "sisoDecodes", fn := fun _ => fun
  | [d1, d2, d3] => { results := [.lit (.bool true)], args := [d1, d2, d3] }
  | _ => none }
def sisoDecodesRow : OpenClaim := { program := "ytmdjclfmhndjnaa", sum := "ff340686f7123236f25952480c2968549bc1a36bd9f0b086ffded45f01f1dca3", func := "userplane/userplanelaw13.SisoDecodes", spec := "sisoDecodes", unfollowed := true, recurses := true, apart := false }
def SisoDecodesSaid : Prop := sisoDecodesRow.holds Try.pinned (OpenSpec.ofChange sisoDecodesSpec)

/-- ITS FALSE NEIGHBOUR: 'it returns false'. Refute it at one input. -/
def sisoDecodesWrong : ChangeSpec := { name := "sisoDecodes", fn := fun _ => fun
  | [d1, d2, d3] => { results := [.lit (.bool false)], args := [d1, d2, d3] }
  | _ => none }
def SisoDecodesWrongFalsely : Prop := sisoDecodesRow.holds Try.pinned (OpenSpec.ofChange sisoDecodesWrong)

/-- 'userplanelaw13.SisoTurns': WHATEVER THE INPUT: true; the input reads as it did. -/
def sisoTurnsSpec : ChangeSpec := { name := "sisoTurns", fn := fun _ => fun
  | [d1, d2, d3, d4] => { results := [.lit (.bool true)], args := [d1, d2, d3, d4] }
  | _ => none }
def sisoTurnsRow : OpenClaim := { program := "ytmdjclfmhndjnaa", sum := "ff340686f7123236f25952480c2968549bc1a36bd9f0b086ffded45f01f1dca3", func := "userplane/userplanelaw13.SisoTurns", spec := "sisoTurns", unfollowed := true, recurses := true, apart := false }
def SisoTurnsSaid : Prop := sisoTurnsRow.holds Try.pinned (OpenSpec.ofChange sisoTurnsSpec)

/-- ITS FALSE NEIGHBOUR: 'it returns false'. Refute it at one input. -/
def sisoTurnsWrong : ChangeSpec := { name := "sisoTurns", fn := fun _ => fun
  | [d1, d2, d3, d4] => { results := [.lit (.bool false)], args := [d1, d2, d3, d4] }
  | _ => none }
def SisoTurnsWrongFalsely : Prop := sisoTurnsRow.holds Try.pinned (OpenSpec.ofChange sisoTurnsWrong)

/-- 'userplanelaw13.SisoHolds': WHATEVER THE INPUT: true; the input reads as it did. -/
def sisoHoldsSpec : ChangeSpec := { name := "sisoHolds", fn := fun _ => fun
  | [d1, d2, d3, d4] => { results := [.lit (.bool true)], args := [d1, d2, d3, d4] }
  | _ => none }
def sisoHoldsRow : OpenClaim := { program := "ytmdjclfmhndjnaa", sum := "ff340686f7123236f25952480c2968549bc1a36bd9f0b086ffded45f01f1dca3", func := "userplane/userplanelaw13.SisoHolds", spec := "sisoHolds", unfollowed := true, recurses := true, apart := false }
def SisoHoldsSaid : Prop := sisoHoldsRow.holds Try.pinned (OpenSpec.ofChange sisoHoldsSpec)

/-- ITS FALSE NEIGHBOUR: 'it returns false'. Refute it at one input. -/
def sisoHoldsWrong : ChangeSpec := { name := "sisoHolds", fn := fun _ => fun
  | [d1, d2, d3, d4] => { results := [.lit (.bool false)], args := [d1, d2, d3, d4] }
  | _ => none }
def SisoHoldsWrongFalsely : Prop := sisoHoldsRow.holds Try.pinned (OpenSpec.ofChange sisoHoldsWrong)

/-- 'userplanelaw13.SisoForward': WHATEVER THE INPUT: true; the input reads as it did. -/
def sisoForwardSpec : ChangeSpec := { name := "sisoForward", fn := fun _ => fun
  | [d1, d2, d3, d4] => { results := [.lit (.bool true)], args := [d1, d2, d3, d4] }
  | _ => none }
def sisoForwardRow : OpenClaim := { program := "ytmdjclfmhndjnaa", sum := "ff340686f7123236f25952480c2968549bc1a36bd9f0b086ffded45f01f1dca3", func := "userplane/userplanelaw13.SisoForward", spec := "sisoForward", unfollowed := true, recurses := true, apart := false }
def SisoForwardSaid : Prop := sisoForwardRow.holds Try.pinned (OpenSpec.ofChange sisoForwardSpec)

/-- ITS FALSE NEIGHBOUR: 'it returns false'. Refute it at one input. -/
def sisoForwardWrong : ChangeSpec := { name := "sisoForward", fn := fun _ => fun
  | [d1, d2, d3, d4] => { results := [.lit (.bool false)], args := [d1, d2, d3, d4] }
  | _ => none }
def SisoForwardWrongFalsely : Prop := sisoForwardRow.holds Try.pinned (OpenSpec.ofChange sisoForwardWrong)

/-- 'userplanelaw13.SisoMetrics': WHATEVER THE INPUT: true; the input reads as it did. -/
def sisoMetricsSpec : ChangeSpec := { name := "sisoMetrics", fn := fun _ => fun
  | [d1, d2, d3, d4] => { results := [.lit (.bool true)], args := [d1, d2, d3, d4] }
  | _ => none }
def sisoMetricsRow : OpenClaim := { program := "ytmdjclfmhndjnaa", sum := "ff340686f7123236f25952480c2968549bc1a36bd9f0b086ffded45f01f1dca3", func := "userplane/userplanelaw13.SisoMetrics", spec := "sisoMetrics", unfollowed := true, recurses := true, apart := false }
def SisoMetricsSaid : Prop := sisoMetricsRow.holds Try.pinned (OpenSpec.ofChange sisoMetricsSpec)

/-- ITS FALSE NEIGHBOUR: 'it returns false'. Refute it at one input. -/
def sisoMetricsWrong : ChangeSpec := { name := "sisoMetrics", fn := fun _ => fun
  | [d1, d2, d3, d4] => { results := [.lit (.bool false)], args := [d1, d2, d3, d4] }
  | _ => none }
def SisoMetricsWrongFalsely : Prop := sisoMetricsRow.holds Try.pinned (OpenSpec.ofChange sisoMetricsWrong)

/-- 'userplanelaw13.SisoBrute': WHATEVER THE INPUT: true; the input reads as it did. -/
def sisoBruteSpec : ChangeSpec := { name := "sisoBrute", fn := fun _ => fun
  | [d1, d2, d3] => { results := [.lit (.bool true)], args := [d1, d2, d3] }
  | _ => none }
def sisoBruteRow : OpenClaim := { program := "ytmdjclfmhndjnaa", sum := "ff340686f7123236f25952480c2968549bc1a36bd9f0b086ffded45f01f1dca3", func := "userplane/userplanelaw13.SisoBrute", spec := "sisoBrute", unfollowed := true, recurses := true, apart := false }
def SisoBruteSaid : Prop := sisoBruteRow.holds Try.pinned (OpenSpec.ofChange sisoBruteSpec)

/-- ITS FALSE NEIGHBOUR: 'it returns false'. Refute it at one input. -/
def sisoBruteWrong : ChangeSpec := { name := "sisoBrute", fn := fun _ => fun
  | [d1, d2, d3] => { results := [.lit (.bool false)], args := [d1, d2, d3] }
  | _ => none }
def SisoBruteWrongFalsely : Prop := sisoBruteRow.holds Try.pinned (OpenSpec.ofChange sisoBruteWrong)

/- THE SECOND FORM. 'bulk': how many values and letters a reading holds, each counted each time it is reached (what is shared counts as often as it is met; a slice's spare places count too). A statement '..UptoSaid' is the law's where the arguments, and the package variables that the reading takes, are together of bulk at most 1048576: NARROWER than '..Said'. Prove '..Said' where nothing that the law and all that it calls make is longer than what came in: it says more and counts as full. Else prove '..UptoSaid'. A law counts once. -/
mutual
def uptoBulk {H : Type} : DataW H → Nat
  | .lit (.string bytes) => bytes.length + 1
  | .lit _ => 1
  | .nil => 1
  | .ptr d => uptoBulk d + 1
  | .slice elems spare => uptoBulkAll elems + uptoBulkAll spare + 1
  | .agg parts => uptoBulkAll parts + 1
  | .iface _ d => uptoBulk d + 1
  | .map entries => uptoBulkEntries entries + 1
  | .held _ => 1
def uptoBulkAll {H : Type} : List (DataW H) → Nat
  | [] => 0
  | d :: r => uptoBulk d + uptoBulkAll r
def uptoBulkEntries {H : Type} : List (Lit × DataW H) → Nat
  | [] => 0
  | x :: r => uptoBulkEntry x + uptoBulkEntries r
def uptoBulkEntry {H : Type} : Lit × DataW H → Nat
  | (.string bytes, d) => bytes.length + uptoBulk d + 1
  | (_, d) => uptoBulk d + 1
 end
def uptoSmall : (H : Type) → List (DataW H) → Bool := fun _ ds => decide (uptoBulkAll ds ≤ 1048576)
def OpenSpec.upto (s : _root_.Go.ChangeSpec) : _root_.Go.OpenSpec := { _root_.Go.OpenSpec.ofChange s with cond := some uptoSmall }

/-- 'userplanelaw13.SisoDecodes', WHERE WHAT IT READS IS OF BULK AT MOST 1048576: true; the input reads as it did. -/
def sisoDecodesUptoRow : OpenClaim := { program := "ytmdjclfmhndjnaa", sum := "ff340686f7123236f25952480c2968549bc1a36bd9f0b086ffded45f01f1dca3", func := "userplane/userplanelaw13.SisoDecodes", spec := "sisoDecodes", unfollowed := true, recurses := true, apart := false, narrowed := true }
def SisoDecodesUptoSaid : Prop := sisoDecodesUptoRow.holds Try.pinned (OpenSpec.upto sisoDecodesSpec)

/-- 'userplanelaw13.SisoTurns', WHERE WHAT IT READS IS OF BULK AT MOST 1048576: true; the input reads as it did. -/
def sisoTurnsUptoRow : OpenClaim := { program := "ytmdjclfmhndjnaa", sum := "ff340686f7123236f25952480c2968549bc1a36bd9f0b086ffded45f01f1dca3", func := "userplane/userplanelaw13.SisoTurns", spec := "sisoTurns", unfollowed := true, recurses := true, apart := false, narrowed := true }
def SisoTurnsUptoSaid : Prop := sisoTurnsUptoRow.holds Try.pinned (OpenSpec.upto sisoTurnsSpec)

/-- 'userplanelaw13.SisoHolds', WHERE WHAT IT READS IS OF BULK AT MOST 1048576: true; the input reads as it did. -/
def sisoHoldsUptoRow : OpenClaim := { program := "ytmdjclfmhndjnaa", sum := "ff340686f7123236f25952480c2968549bc1a36bd9f0b086ffded45f01f1dca3", func := "userplane/userplanelaw13.SisoHolds", spec := "sisoHolds", unfollowed := true, recurses := true, apart := false, narrowed := true }
def SisoHoldsUptoSaid : Prop := sisoHoldsUptoRow.holds Try.pinned (OpenSpec.upto sisoHoldsSpec)

/-- 'userplanelaw13.SisoForward', WHERE WHAT IT READS IS OF BULK AT MOST 1048576: true; the input reads as it did. -/
def sisoForwardUptoRow : OpenClaim := { program := "ytmdjclfmhndjnaa", sum := "ff340686f7123236f25952480c2968549bc1a36bd9f0b086ffded45f01f1dca3", func := "userplane/userplanelaw13.SisoForward", spec := "sisoForward", unfollowed := true, recurses := true, apart := false, narrowed := true }
def SisoForwardUptoSaid : Prop := sisoForwardUptoRow.holds Try.pinned (OpenSpec.upto sisoForwardSpec)

/-- 'userplanelaw13.SisoMetrics', WHERE WHAT IT READS IS OF BULK AT MOST 1048576: true; the input reads as it did. -/
def sisoMetricsUptoRow : OpenClaim := { program := "ytmdjclfmhndjnaa", sum := "ff340686f7123236f25952480c2968549bc1a36bd9f0b086ffded45f01f1dca3", func := "userplane/userplanelaw13.SisoMetrics", spec := "sisoMetrics", unfollowed := true, recurses := true, apart := false, narrowed := true }
def SisoMetricsUptoSaid : Prop := sisoMetricsUptoRow.holds Try.pinned (OpenSpec.upto sisoMetricsSpec)

/-- 'userplanelaw13.SisoBrute', WHERE WHAT IT READS IS OF BULK AT MOST 1048576: true; the input reads as it did. -/
def sisoBruteUptoRow : OpenClaim := { program := "ytmdjclfmhndjnaa", sum := "ff340686f7123236f25952480c2968549bc1a36bd9f0b086ffded45f01f1dca3", func := "userplane/userplanelaw13.SisoBrute", spec := "sisoBrute", unfollowed := true, recurses := true, apart := false, narrowed := true }
def SisoBruteUptoSaid : Prop := sisoBruteUptoRow.holds Try.pinned (OpenSpec.upto sisoBruteSpec)

end Rows
end Go.Proofs.Ytmdjclfmhndjnaa
