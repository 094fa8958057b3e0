/- A part of the proof, turned for this claim out of printed and own texts: no condition of its own. -/
-- PRINTED BY print.sh 35421559b90ae4d0a3588c463048766b98c2df88dd9212a6774a882060cdf62d: not written by this session
import Derived.Test.YtiopkeepldmlkaaDoorCSBWInv
import Derived.Test.YtiopkeepldmlkaaDoorCSBWFootNe
namespace Go.Proofs.YtiopkeepldmlkaaDoorW.PrintWords
open Go.RowKit
end Go.Proofs.YtiopkeepldmlkaaDoorW.PrintWords
namespace Go.Proofs.YtiopkeepldmlkaaDoorW.PrintLast
section
variable {ops : Array Oper} {a : Act} {o og : Oper} {g : Nat} {t : Tmp} {u : Bool}
end
end Go.Proofs.YtiopkeepldmlkaaDoorW.PrintLast
