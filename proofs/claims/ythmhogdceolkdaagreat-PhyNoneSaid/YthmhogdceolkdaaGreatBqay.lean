/- Bundle. Conditions: none. -/
import Derived.Test.YthmhogdceolkdaaGreatBqax
set_option linter.unusedVariables false
set_option linter.unusedSimpArgs false
namespace Go.Proofs.YthmhogdceolkdaaGreat
open Go.RowKit
section
variable {P : Program} {W W' : World} {base cap e sz : Nat} {A : Option Addr} {rs : List (List Value)}
end
section
variable {W W' : World} {b N : Nat} {g g' : Nat -> List Int}
end
section
variable {w wr w' : World} {bf bg N bA cap : Nat} {F G F' G' : Nat -> List Int}
end
end Go.Proofs.YthmhogdceolkdaaGreat