/- A part of the proof: no condition of its own. Out of what the print tool printed, or of own texts, cut down to what this claim needs by a program of the prover (prune.py). -/
import Derived.Test.YtiopkeepldmlkaaDoorCRIWInv
import Derived.Test.YtiopkeepldmlkaaDoorCRIWFootNe
namespace Go.Proofs.YtiopkeepldmlkaaDoorW.PrintWords
open Go.RowKit
end Go.Proofs.YtiopkeepldmlkaaDoorW.PrintWords
namespace Go.Proofs.YtiopkeepldmlkaaDoorW.PrintLast
section
variable {ops : Array Oper} {a : Act} {o og : Oper} {g : Nat} {t : Tmp} {u : Bool}
end
end Go.Proofs.YtiopkeepldmlkaaDoorW.PrintLast
