-- Declarations of the text that this claim uses (slim.py, a program of this session).
import Derived.Test.YtobcpkeapjflhaaZComesL
import Derived.Test.YtobcpkeapjflhaaZOp
import Derived.KernelRfl
namespace Go.Proofs.Ytobcpkeapjflhaa.Q
open Go Go.RowKit Go.ChangeShapes Go.WideShapes Go.Proofs.Ytobcpkeapjflhaa.Op Go.Proofs.Ytobcpkeapjflhaa.Q Go.Proofs.YtobcpkeapjflhaaW.PrintWords Go.Proofs.YtobcpkeapjflhaaW.PrintLast Go.Proofs.YtobcpkeapjflhaaW.PrintMore
set_option linter.unusedVariables false
set_option linter.unusedSimpArgs false
theorem cells2_ : Try.prog.cellsOf 2 = 1 := by kernel_rfl
theorem cells3_ : Try.prog.cellsOf 3 = 1 := by kernel_rfl
theorem cells35_ : Try.prog.cellsOf 35 = 1 := by kernel_rfl
theorem cells45_ : Try.prog.cellsOf 45 = 1 := by kernel_rfl
theorem cells47_ : Try.prog.cellsOf 47 = 2 := by kernel_rfl
theorem cells68_ : Try.prog.cellsOf 68 = 2 := by kernel_rfl
instance inh68 : Inhabited S68 := ⟨z68⟩
def gd68 (x : S68) : Prop := (Lit.int .u64 x.f0).wf = true ∧ (Lit.int .i64 x.f1).wf = true
theorem opn68 : Opn Try.prog k68 68 gd68 := by
  intro H_ enc_ w_ base_ spare_ held_ fuel_ cs_ x_ h_
  obtain ⟨_, _, _, h0_, _, _⟩ := st2 Try.underlying68 h_
  rw [cells68_] at h0_
  obtain ⟨c0_, c1_, rfl⟩ := lst2 h0_
  obtain ⟨uy0, uy1, un, _, ug0, ug1⟩ := st2 Try.underlying68 h_
  have uf0 : DataW.trod _ Try.prog _ _ _ _ un 35 ((([c0_, c1_] : List Value).drop 0).take (Try.prog.cellsOf 35)) = some uy0 := ug0
  rw [cells35_] at uf0
  simp only [List.drop_zero, List.drop_succ_cons, List.take_succ_cons, List.take_zero] at uf0
  obtain ⟨ac0_, ec0_, gc0_⟩ := (opn_int Try.underlying35) _ _ _ _ _ _ _ _ _ uf0
  have zc0_ : c0_ = .int .u64 ac0_ := by simpa using (show [c0_] = [(.int .u64 ac0_ : Value)] from ec0_)
  have uf1 : DataW.trod _ Try.prog _ _ _ _ un 2 ((([c0_, c1_] : List Value).drop 1).take (Try.prog.cellsOf 2)) = some uy1 := ug1
  rw [cells2_] at uf1
  simp only [List.drop_zero, List.drop_succ_cons, List.take_succ_cons, List.take_zero] at uf1
  obtain ⟨ac1_, ec1_, gc1_⟩ := (opn_int Try.underlying2) _ _ _ _ _ _ _ _ _ uf1
  have zc1_ : c1_ = .int .i64 ac1_ := by simpa using (show [c1_] = [(.int .i64 ac1_ : Value)] from ec1_)
  subst zc0_ zc1_
  exact ⟨(⟨ac0_, ac1_⟩ : S68), k68_mk w_ (⟨ac0_, ac1_⟩ : S68) , ⟨gc0_, gc1_⟩⟩
end Go.Proofs.Ytobcpkeapjflhaa.Q
