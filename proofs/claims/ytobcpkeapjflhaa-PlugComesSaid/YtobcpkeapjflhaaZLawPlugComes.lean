-- Written by a program of this session (wip/tools/given.py) over the translation: Lean checks it.
import Derived.Test.YtobcpkeapjflhaaRows
import Derived.Test.YtobcpkeapjflhaaZQrPlugComes
import Derived.WalkKit
import Derived.ProofKit
import Derived.OpenShut
import Derived.ShutString
import Derived.ChangeOld
import Derived.Below
import Derived.SizedLaws
import Derived.Carry
namespace Go.Proofs.Ytobcpkeapjflhaa.plugComes
open Go.ChangeAt
open Go.ChangeMaps (open_string shut_string)
open Go Go.RowKit Go.ChangeShapes Go.WideShapes Go.Proofs.Ytobcpkeapjflhaa.Op Go.Proofs.Ytobcpkeapjflhaa.Q Go.Proofs.YtobcpkeapjflhaaW.PrintWords Go.Proofs.YtobcpkeapjflhaaW.PrintLast Go.Proofs.YtobcpkeapjflhaaW.PrintMore
set_option linter.unusedVariables false
set_option linter.unusedSimpArgs false
theorem own : ownKnob Try.prog.godebug = none := by kernel_rfl
theorem laidOut : laidOutB Try.prog = true := by kernel_rfl
set_option maxRecDepth 100000 in
set_option maxHeartbeats 4000000 in
theorem lifted (os : Os) (started : os.Started) (H : Type) (enc : TypeId × Value → H) :
    ReturnsInHanded {} Try.checked os 8 .any (Rows.plugComesSpec.pre6 enc Try.prog Try.f8 Rows.plugComesRow.domain false) (Rows.plugComesSpec.post enc Try.prog Try.f8 false true false false) := by
  refine returnsInHanded_of_change_sized (C := Try.checked) own started (by kernel_rfl) Try.func8
    (ChangeSpec.witness6 (enc := enc) (C := Try.checked) false ⟨#[], #[.slice none 0 0, .agg #[.int .i64 0, .slice none 0 0], .int .u64 0, .int .i64 0, .int .i64 0], []⟩ 8 (by kernel_rfl) (by kernel_rfl) (by kernel_rfl) (by kernel_rfl)) ?_
  intro W base args ds gs before hval0 hW hcnd hsz0 _
  have hval : ∀ (j : Nat) t v, Try.f8.params[j]? = some t → args[j]? = some v → Value.okWide Try.prog W .any base t v := hval0
  have hW' := hW
  obtain ⟨p, q, hA0, hV, rfl, hfz, hnd⟩ := hW
  have hA : DataW.TrodAll enc Try.prog W 0 (fun _ => true) true Try.f8.params.toList args.toList ds p := hA0
  rw [Try.params8] at hA hval
  obtain ⟨v0, vs0, d0, ds0, p0, q0, hargs, rfl, rfl, h0, r0⟩ := trodAll_cons hA
  obtain ⟨v1, vs1, d1, ds1, p1, q1, rfl, rfl, rfl, h1, r1⟩ := trodAll_cons r0
  obtain ⟨v2, vs2, d2, ds2, p2, q2, rfl, rfl, rfl, h2, r2⟩ := trodAll_cons r1
  obtain ⟨v3, vs3, d3, ds3, p3, q3, rfl, rfl, rfl, h3, r3⟩ := trodAll_cons r2
  obtain ⟨v4, vs4, d4, ds4, p4, q4, rfl, rfl, rfl, h4, r4⟩ := trodAll_cons r3
  obtain ⟨rfl, rfl, rfl⟩ := trodAll_nil r4
  obtain rfl : args = #[v0, v1, v2, v3, v4] := by cases args; simp_all
  obtain ⟨rfl, rfl⟩ := trodVars_none hV
  have k0 := h0
  have lt0 : ∀ x ∈ p0, x.block < W.heap.size := by obtain ⟨m, hm⟩ := k0; exact DataW.trod_lt m _ _ _ hm
  obtain ⟨a0, len0, cap0, rfl⟩ := okWide_slice Try.underlying31 (hval 0 31 v0 rfl rfl)
  obtain ⟨fu0, hf0⟩ := h0
  obtain ⟨l0, ⟨A0, c0, e0, q0_, r0_⟩, g0⟩ := (opn_slice Try.underlying31 (by kernel_rfl) (opn_int Try.underlying3)) _ _ _ _ _ _ _ _ _ hf0
  simp only [Value.cells, List.cons.injEq, Value.slice.injEq, and_true] at e0
  obtain ⟨rfl, rfl, rfl⟩ := e0
  have k1 := h1
  have lt1 : ∀ x ∈ p1, x.block < W.heap.size := by obtain ⟨m, hm⟩ := k1; exact DataW.trod_lt m _ _ _ hm
  obtain ⟨cs1, rfl, hs1⟩ := okWide_struct Try.underlying47 (hval 1 47 v1 rfl rfl)
  rw [cells47_] at hs1
  obtain ⟨cl1⟩ := cs1
  obtain ⟨k1_0, k1_1, rfl⟩ := lst2 (show cl1.length = 2 from hs1)
  obtain ⟨fu1, hf10⟩ := h1
  have hf1 : DataW.trod enc Try.prog W 0 (fun _ => true) true fu1 47 [k1_0, k1_1] = some (d1, p1) := hf10
  obtain ⟨u1_y0, u1_y1, u1_n, _, u1_g0, u1_g1⟩ := st2 Try.underlying47 hf1
  have u1_f0 : DataW.trod _ Try.prog _ _ _ _ u1_n 3 ((([k1_0, k1_1] : List Value).drop 0).take (Try.prog.cellsOf 3)) = some u1_y0 := u1_g0
  rw [cells3_] at u1_f0
  simp only [List.drop_zero, List.drop_succ_cons, List.take_succ_cons, List.take_zero] at u1_f0
  obtain ⟨ak1_0, ek1_0, gk1_0⟩ := (opn_int Try.underlying3) _ _ _ _ _ _ _ _ _ u1_f0
  have zk1_0 : k1_0 = .int .i64 ak1_0 := by simpa using (show [k1_0] = [(.int .i64 ak1_0 : Value)] from ek1_0)
  have u1_f1 : DataW.trod _ Try.prog _ _ _ _ u1_n 45 ((([k1_0, k1_1] : List Value).drop 1).take (Try.prog.cellsOf 45)) = some u1_y1 := u1_g1
  rw [cells45_] at u1_f1
  simp only [List.drop_zero, List.drop_succ_cons, List.take_succ_cons, List.take_zero] at u1_f1
  obtain ⟨lk1_1, ⟨Ak1_1, ck1_1, ek1_1, qk1_1, rk1_1⟩, gk1_1⟩ := (opn_slice Try.underlying45 (by kernel_rfl) opn68) _ _ _ _ _ _ _ _ _ u1_f1
  have zk1_1 : k1_1 = .slice Ak1_1 lk1_1.length ck1_1 := by simpa using ek1_1
  subst zk1_0 zk1_1
  obtain ⟨a2, rfl, rfl, rfl, g2⟩ := open_int Try.underlying35 (hval 2 35 v2 rfl rfl) h2
  obtain ⟨a3, rfl, rfl, rfl, g3⟩ := open_int Try.underlying2 (hval 3 2 v3 rfl rfl) h3
  obtain ⟨a4, rfl, rfl, rfl, g4⟩ := open_int Try.underlying3 (hval 4 3 v4 rfl rfl) h4
  clear hA0 hval0 hsz0
  refine (Go.Proofs.Ytobcpkeapjflhaa.ComesL.comes.calls a0 cap0 l0 ak1_0 Ak1_1 ck1_1 lk1_1 a2 a3 a4 W r0_ q0_ rk1_1 qk1_1 g0 gk1_0 gk1_1 g2 g3 g4).mono fun e W' hh => ?_
  obtain ⟨he, bel0⟩ := hh
  have bel : Below W.heap.size W W' := bel0
  subst he
  exact ⟨_, rfl, _, _, _, [], _, [], hW', trodAll_mk1 (shut_bool Try.underlying4 _), (trodAll_cons_mk (Below.trod laidOut (by kernel_rfl) (of_decide_eq_true (by kernel_rfl)) k0 bel lt0) (trodAll_cons_mk (Below.trod laidOut (by kernel_rfl) (of_decide_eq_true (by kernel_rfl)) k1 bel lt1) (trodAll_cons_mk (shut_int Try.underlying35 g2) (trodAll_cons_mk (shut_int Try.underlying2 g3) (trodAll_cons_mk (shut_int Try.underlying3 g4) trodAll_mk0))))), rfl, bel.frame _, fun h => by cases h⟩
theorem over : Rows.plugComesRow.holds Try.pinned (OpenSpec.ofChange Rows.plugComesSpec) :=
  OpenClaim.holds_of_wide 8 Try.f8 rfl rfl rfl rfl rfl rfl rfl ⟨rfl, rfl, rfl, rfl, rfl⟩ rfl rfl rfl rfl rfl (by kernel_rfl) Try.func8 (by kernel_rfl)
    (of_decide_eq_true (by kernel_rfl)) (by unfold Func.isWrapper; first | (rw [if_pos (by decide +kernel)]; kernel_rfl) | (rw [if_neg (by decide +kernel)]; exact ⟨rfl, rfl⟩))
    (fun os started H enc _ => lifted os started H enc)
theorem proved : Rows.PlugComesSaid := over
#print axioms proved
end Go.Proofs.Ytobcpkeapjflhaa.plugComes
namespace Go.Proofs.Ytobcpkeapjflhaa
/-- The row, under a short name, for the claim. -/
theorem plugComes_holds : Rows.PlugComesSaid := plugComes.proved
end Go.Proofs.Ytobcpkeapjflhaa
