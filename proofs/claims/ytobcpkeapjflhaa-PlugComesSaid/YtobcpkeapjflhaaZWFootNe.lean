-- Declarations of the printer's words that this claim uses (slim.py, a program of this session).
import Derived.Test.YtobcpkeapjflhaaZWN
namespace Go.Proofs.YtobcpkeapjflhaaW.PrintWords
open Go.RowKit
namespace Kd
section
variable {α : Type} {d : Kd α} {W : World} {g n : Nat} {S ok : Nat → Prop} {A : Option Addr} {ad : Addr} {xs : List α}
end
end Kd
end Go.Proofs.YtobcpkeapjflhaaW.PrintWords
