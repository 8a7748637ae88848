-- Declarations of the printer's words that this claim uses (slim.py, a program of this session).
import Derived.Test.YtobcpkeapjflhaaZWInv
import Derived.Test.YtobcpkeapjflhaaZWFootNe
namespace Go.Proofs.YtobcpkeapjflhaaW.PrintWords
open Go.RowKit
end Go.Proofs.YtobcpkeapjflhaaW.PrintWords
namespace Go.Proofs.YtobcpkeapjflhaaW.PrintLast
section
variable {ops : Array Oper} {a : Act} {o og : Oper} {g : Nat} {t : Tmp} {u : Bool}
end
end Go.Proofs.YtobcpkeapjflhaaW.PrintLast
