-- Written by a program of this session (wip/tools/given.py) over the translation: Lean checks it.
import Derived.Test.YtobcpkeapjflhaaQx7
import Derived.Test.YtobcpkeapjflhaaOp
import Derived.KernelRfl
namespace Go.Proofs.Ytobcpkeapjflhaa.Q
open Go Go.RowKit Go.ChangeShapes Go.WideShapes Go.Proofs.Ytobcpkeapjflhaa.Op Go.Proofs.Ytobcpkeapjflhaa.Q Go.Proofs.YtobcpkeapjflhaaW.PrintWords Go.Proofs.YtobcpkeapjflhaaW.PrintLast Go.Proofs.YtobcpkeapjflhaaW.PrintMore
set_option linter.unusedVariables false
set_option linter.unusedSimpArgs false
theorem cells3_ : Try.prog.cellsOf 3 = 1 := by kernel_rfl
theorem cells35_ : Try.prog.cellsOf 35 = 1 := by kernel_rfl
theorem cells37_ : Try.prog.cellsOf 37 = 5 := by kernel_rfl
/-- The one pure statement of soundservicelaw33_PlugMoves. -/
def soundservicelaw33_PlugMoves.Pure : Prop := ∀ (a0_0 : Int) (a0_1 : Int) (a0_2 : Int) (a0_3 : Int) (a0_4 : Int) (a1 : Int) (a2 : Int) (a3 : Int) (a4 : Int) (a5 : Int), (Lit.int .i64 a0_0).wf = true → (Lit.int .u64 a0_1).wf = true → (Lit.int .u64 a0_2).wf = true → (Lit.int .i64 a0_3).wf = true → (Lit.int .i64 a0_4).wf = true → (Lit.int .i64 a1).wf = true → (Lit.int .u64 a2).wf = true → (Lit.int .u64 a3).wf = true → (Lit.int .i64 a4).wf = true → (Lit.int .i64 a5).wf = true → ∃ k, soundservicelaw33_PlugMoves.f k a0_0 a0_1 a0_2 a0_3 a0_4 a1 a2 a3 a4 a5 = some true
end Go.Proofs.Ytobcpkeapjflhaa.Q
