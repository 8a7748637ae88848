-- Written by a program of this session (wip/tools/given.py) over the translation: Lean checks it.
import Derived.Test.YtobcpkeapjflhaaRows
import Derived.Test.YtobcpkeapjflhaaQrPlugMoves
import Derived.Test.YtobcpkeapjflhaaPurePlugMoves
import Derived.WalkKit
import Derived.ProofKit
import Derived.OpenShut
import Derived.ShutString
import Derived.ChangeOld
import Derived.Below
import Derived.SizedLaws
import Derived.Carry
namespace Go.Proofs.Ytobcpkeapjflhaa.plugMoves
open Go.ChangeAt
open Go.ChangeMaps (open_string shut_string)
open Go Go.RowKit Go.ChangeShapes Go.WideShapes Go.Proofs.Ytobcpkeapjflhaa.Op Go.Proofs.Ytobcpkeapjflhaa.Q Go.Proofs.YtobcpkeapjflhaaW.PrintWords Go.Proofs.YtobcpkeapjflhaaW.PrintLast Go.Proofs.YtobcpkeapjflhaaW.PrintMore
set_option linter.unusedVariables false
set_option linter.unusedSimpArgs false
theorem own : ownKnob Try.prog.godebug = none := by kernel_rfl
theorem laidOut : laidOutB Try.prog = true := by kernel_rfl
set_option maxRecDepth 100000 in
set_option maxHeartbeats 4000000 in
theorem lifted (os : Os) (started : os.Started) (H : Type) (enc : TypeId × Value → H) :
    ReturnsInHanded {} Try.checked os 6 .any (Rows.plugMovesSpec.pre6 enc Try.prog Try.f6 Rows.plugMovesRow.domain false) (Rows.plugMovesSpec.post enc Try.prog Try.f6 false true false false) := by
  refine returnsInHanded_of_change_sized (C := Try.checked) own started (by kernel_rfl) Try.func6
    (ChangeSpec.witness6 (enc := enc) (C := Try.checked) false ⟨#[], #[.agg #[.int .i64 0, .int .u64 0, .int .u64 0, .int .i64 0, .int .i64 0], .int .i64 0, .int .u64 0, .int .u64 0, .int .i64 0, .int .i64 0], []⟩ 8 (by kernel_rfl) (by kernel_rfl) (by kernel_rfl) (by kernel_rfl)) ?_
  intro W base args ds gs before hval0 hW hcnd hsz0 _
  have hval : ∀ (j : Nat) t v, Try.f6.params[j]? = some t → args[j]? = some v → Value.okWide Try.prog W .any base t v := hval0
  have hW' := hW
  obtain ⟨p, q, hA0, hV, rfl, hfz, hnd⟩ := hW
  have hA : DataW.TrodAll enc Try.prog W 0 (fun _ => true) true Try.f6.params.toList args.toList ds p := hA0
  rw [Try.params6] at hA hval
  obtain ⟨v0, vs0, d0, ds0, p0, q0, hargs, rfl, rfl, h0, r0⟩ := trodAll_cons hA
  obtain ⟨v1, vs1, d1, ds1, p1, q1, rfl, rfl, rfl, h1, r1⟩ := trodAll_cons r0
  obtain ⟨v2, vs2, d2, ds2, p2, q2, rfl, rfl, rfl, h2, r2⟩ := trodAll_cons r1
  obtain ⟨v3, vs3, d3, ds3, p3, q3, rfl, rfl, rfl, h3, r3⟩ := trodAll_cons r2
  obtain ⟨v4, vs4, d4, ds4, p4, q4, rfl, rfl, rfl, h4, r4⟩ := trodAll_cons r3
  obtain ⟨v5, vs5, d5, ds5, p5, q5, rfl, rfl, rfl, h5, r5⟩ := trodAll_cons r4
  obtain ⟨rfl, rfl, rfl⟩ := trodAll_nil r5
  obtain rfl : args = #[v0, v1, v2, v3, v4, v5] := by cases args; simp_all
  obtain ⟨rfl, rfl⟩ := trodVars_none hV
  have k0 := h0
  have lt0 : ∀ x ∈ p0, x.block < W.heap.size := by obtain ⟨m, hm⟩ := k0; exact DataW.trod_lt m _ _ _ hm
  obtain ⟨cs0, rfl, hs0⟩ := okWide_struct Try.underlying37 (hval 0 37 v0 rfl rfl)
  rw [cells37_] at hs0
  obtain ⟨cl0⟩ := cs0
  obtain ⟨k0_0, k0_1, k0_2, k0_3, k0_4, rfl⟩ := lst5 (show cl0.length = 5 from hs0)
  obtain ⟨fu0, hf00⟩ := h0
  have hf0 : DataW.trod enc Try.prog W 0 (fun _ => true) true fu0 37 [k0_0, k0_1, k0_2, k0_3, k0_4] = some (d0, p0) := hf00
  obtain ⟨u0_y0, u0_y1, u0_y2, u0_y3, u0_y4, u0_n, _, u0_g0, u0_g1, u0_g2, u0_g3, u0_g4⟩ := st5 Try.underlying37 hf0
  have u0_f0 : DataW.trod _ Try.prog _ _ _ _ u0_n 3 ((([k0_0, k0_1, k0_2, k0_3, k0_4] : List Value).drop 0).take (Try.prog.cellsOf 3)) = some u0_y0 := u0_g0
  rw [cells3_] at u0_f0
  simp only [List.drop_zero, List.drop_succ_cons, List.take_succ_cons, List.take_zero] at u0_f0
  obtain ⟨ak0_0, ek0_0, gk0_0⟩ := (opn_int Try.underlying3) _ _ _ _ _ _ _ _ _ u0_f0
  have zk0_0 : k0_0 = .int .i64 ak0_0 := by simpa using (show [k0_0] = [(.int .i64 ak0_0 : Value)] from ek0_0)
  have u0_f1 : DataW.trod _ Try.prog _ _ _ _ u0_n 35 ((([k0_0, k0_1, k0_2, k0_3, k0_4] : List Value).drop 1).take (Try.prog.cellsOf 35)) = some u0_y1 := u0_g1
  rw [cells35_] at u0_f1
  simp only [List.drop_zero, List.drop_succ_cons, List.take_succ_cons, List.take_zero] at u0_f1
  obtain ⟨ak0_1, ek0_1, gk0_1⟩ := (opn_int Try.underlying35) _ _ _ _ _ _ _ _ _ u0_f1
  have zk0_1 : k0_1 = .int .u64 ak0_1 := by simpa using (show [k0_1] = [(.int .u64 ak0_1 : Value)] from ek0_1)
  have u0_f2 : DataW.trod _ Try.prog _ _ _ _ u0_n 35 ((([k0_0, k0_1, k0_2, k0_3, k0_4] : List Value).drop 2).take (Try.prog.cellsOf 35)) = some u0_y2 := u0_g2
  rw [cells35_] at u0_f2
  simp only [List.drop_zero, List.drop_succ_cons, List.take_succ_cons, List.take_zero] at u0_f2
  obtain ⟨ak0_2, ek0_2, gk0_2⟩ := (opn_int Try.underlying35) _ _ _ _ _ _ _ _ _ u0_f2
  have zk0_2 : k0_2 = .int .u64 ak0_2 := by simpa using (show [k0_2] = [(.int .u64 ak0_2 : Value)] from ek0_2)
  have u0_f3 : DataW.trod _ Try.prog _ _ _ _ u0_n 3 ((([k0_0, k0_1, k0_2, k0_3, k0_4] : List Value).drop 3).take (Try.prog.cellsOf 3)) = some u0_y3 := u0_g3
  rw [cells3_] at u0_f3
  simp only [List.drop_zero, List.drop_succ_cons, List.take_succ_cons, List.take_zero] at u0_f3
  obtain ⟨ak0_3, ek0_3, gk0_3⟩ := (opn_int Try.underlying3) _ _ _ _ _ _ _ _ _ u0_f3
  have zk0_3 : k0_3 = .int .i64 ak0_3 := by simpa using (show [k0_3] = [(.int .i64 ak0_3 : Value)] from ek0_3)
  have u0_f4 : DataW.trod _ Try.prog _ _ _ _ u0_n 3 ((([k0_0, k0_1, k0_2, k0_3, k0_4] : List Value).drop 4).take (Try.prog.cellsOf 3)) = some u0_y4 := u0_g4
  rw [cells3_] at u0_f4
  simp only [List.drop_zero, List.drop_succ_cons, List.take_succ_cons, List.take_zero] at u0_f4
  obtain ⟨ak0_4, ek0_4, gk0_4⟩ := (opn_int Try.underlying3) _ _ _ _ _ _ _ _ _ u0_f4
  have zk0_4 : k0_4 = .int .i64 ak0_4 := by simpa using (show [k0_4] = [(.int .i64 ak0_4 : Value)] from ek0_4)
  subst zk0_0 zk0_1 zk0_2 zk0_3 zk0_4
  obtain ⟨a1, rfl, rfl, rfl, g1⟩ := open_int Try.underlying3 (hval 1 3 v1 rfl rfl) h1
  obtain ⟨a2, rfl, rfl, rfl, g2⟩ := open_int Try.underlying35 (hval 2 35 v2 rfl rfl) h2
  obtain ⟨a3, rfl, rfl, rfl, g3⟩ := open_int Try.underlying35 (hval 3 35 v3 rfl rfl) h3
  obtain ⟨a4, rfl, rfl, rfl, g4⟩ := open_int Try.underlying3 (hval 4 3 v4 rfl rfl) h4
  obtain ⟨a5, rfl, rfl, rfl, g5⟩ := open_int Try.underlying3 (hval 5 3 v5 rfl rfl) h5
  clear hA0 hval0 hsz0
  obtain ⟨k_, hk_⟩ := Pure.PlugMoves ak0_0 ak0_1 ak0_2 ak0_3 ak0_4 a1 a2 a3 a4 a5 gk0_0 gk0_1 gk0_2 gk0_3 gk0_4 g1 g2 g3 g4 g5
  refine (Q.soundservicelaw33_PlugMoves.calls k_ ak0_0 ak0_1 ak0_2 ak0_3 ak0_4 a1 a2 a3 a4 a5 true W  hk_).mono fun e W' hh => ?_
  obtain ⟨he, bel0⟩ := hh
  have bel : Below W.heap.size W W' := bel0
  subst he
  exact ⟨_, rfl, _, _, _, [], _, [], hW', trodAll_mk1 (shut_bool Try.underlying4 _), (trodAll_cons_mk (Below.trod laidOut (by kernel_rfl) (of_decide_eq_true (by kernel_rfl)) k0 bel lt0) (trodAll_cons_mk (shut_int Try.underlying3 g1) (trodAll_cons_mk (shut_int Try.underlying35 g2) (trodAll_cons_mk (shut_int Try.underlying35 g3) (trodAll_cons_mk (shut_int Try.underlying3 g4) (trodAll_cons_mk (shut_int Try.underlying3 g5) trodAll_mk0)))))), rfl, bel.frame _, fun h => by cases h⟩
theorem over : Rows.plugMovesRow.holds Try.pinned (OpenSpec.ofChange Rows.plugMovesSpec) :=
  OpenClaim.holds_of_wide 6 Try.f6 rfl rfl rfl rfl rfl rfl rfl ⟨rfl, rfl, rfl, rfl, rfl⟩ rfl rfl rfl rfl rfl (by kernel_rfl) Try.func6 (by kernel_rfl)
    (of_decide_eq_true (by kernel_rfl)) (by unfold Func.isWrapper; first | (rw [if_pos (by decide +kernel)]; kernel_rfl) | (rw [if_neg (by decide +kernel)]; exact ⟨rfl, rfl⟩))
    (fun os started H enc _ => lifted os started H enc)
theorem proved : Rows.PlugMovesSaid := over
#print axioms proved
end Go.Proofs.Ytobcpkeapjflhaa.plugMoves
namespace Go.Proofs.Ytobcpkeapjflhaa
/-- The row, under a short name, for the claim. -/
theorem plugMoves_holds : Rows.PlugMovesSaid := plugMoves.proved
end Go.Proofs.Ytobcpkeapjflhaa
