/- A part of the proof: no condition of its own. Out of what the print tool printed, or of own texts, cut down to what this claim needs by a program of the prover (prune.py). -/
import Derived.Test.YtiopkeepldmlkaaGreatDoorCLBWInv
import Derived.Test.YtiopkeepldmlkaaGreatDoorCLBWFootNe
namespace Go.Proofs.YtiopkeepldmlkaaGreatDoorW.PrintWords
open Go.RowKit
end Go.Proofs.YtiopkeepldmlkaaGreatDoorW.PrintWords
namespace Go.Proofs.YtiopkeepldmlkaaGreatDoorW.PrintLast
section
variable {ops : Array Oper} {a : Act} {o og : Oper} {g : Nat} {t : Tmp} {u : Bool}
end
end Go.Proofs.YtiopkeepldmlkaaGreatDoorW.PrintLast
