-- Declarations of the printer's words that this claim uses (slim.py, a program of this session).
import Derived.Test.YtobcpkeapjflhaaZWTab
namespace Go.Proofs.YtobcpkeapjflhaaW.PrintLast
section
variable {P : Program} {ops : Array Oper} {Q : Exit → Act → World → Prop} {md : Region.Mode} {S : World → Prop} {ds : List Nat} {T : Bool × List (List Nat × List Nat)}
end
end Go.Proofs.YtobcpkeapjflhaaW.PrintLast
