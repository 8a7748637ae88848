/- For every three numbers: what streams and devices cost, or the error, is what the reference says. -/
import Derived.Test.YtobcpkeapjflhaaQx3
import Derived.Test.YtobcpkeapjflhaaCostL
import Derived.Test.YtobcpkeapjflhaaRows
import Derived.WalkKit
import Derived.LoopTactic
import Derived.ProofKit
import Derived.OpenShut
import Derived.ShutString
import Derived.ChangeOld
import Derived.Below
import Derived.SizedLaws
namespace Go.Proofs.Ytobcpkeapjflhaa.CostN
open Go.RowKit Go.Proofs.Ytobcpkeapjflhaa.Q Go.Proofs.YtobcpkeapjflhaaW.PrintWords Go.Proofs.YtobcpkeapjflhaaW.PrintLast Go.Proofs.YtobcpkeapjflhaaW.PrintMore Go.Proofs.Ytobcpkeapjflhaa.CostL
set_option linter.unusedVariables false
set_option linter.unusedSimpArgs false
def stOk (a b p : Int) : Bool := decide (1 ≤ a ∧ a ≤ 8 ∧ 1 ≤ b ∧ b ≤ 8 ∧ 16 ≤ p ∧ p ≤ 8192)
def stN (a b p : Int) : Int := if stOk a b p = true then wrap64 (300 + (wrap64 ((wrap64 ((wrap64 ((wrap64 (4 * a)) + (wrap64 (a * b)))) + (wrap64 (2 * b)))) * p))) else 0
def stE (a b p : Int) : Int := if stOk a b p = true then 0 else 2
def dvN (a p : Int) : Int := if stOk a 1 p = true then wrap64 (400 + (wrap64 ((wrap64 (8 * a)) * p))) else 0
theorem stream_f (a b p : Int) : cost_Stream.f 3 a b p = some (stN a b p, stE a b p) := by
  unfold cost_Stream.f stN stE stOk
  rw [within2 0, within1 1]
  simp only [Option.bind_some]
  by_cases h1 : 1 ≤ a ∧ a ≤ 8 <;> by_cases h2 : 1 ≤ b ∧ b ≤ 8 <;> by_cases h3 : 16 ≤ p ∧ p ≤ 8192 <;> simp [h1, h2, h3]
  all_goals (repeat' (first | rw [if_neg (by omega)] | rfl))
theorem sizes_f (a b p : Int) : soundserviceref24_sizes.f a b p = some (stOk a b p) := by
  unfold soundserviceref24_sizes.f stOk
  by_cases h1 : 1 ≤ a <;> by_cases h2 : a ≤ 8 <;> by_cases h3 : 1 ≤ b <;> by_cases h4 : b ≤ 8 <;> by_cases h5 : 16 ≤ p <;> simp [h1, h2, h3, h4, h5]
theorem ref_stream_f (a b p : Int) : soundserviceref24_Stream.f a b p = some (stN a b p, stE a b p) := by
  unfold soundserviceref24_Stream.f stN stE
  rw [sizes_f]
  simp only [Option.bind_some]
  cases stOk a b p <;> rfl
theorem device_f (a p : Int) : cost_Device.f 3 a p = some (dvN a p, stE a 1 p) := by
  unfold cost_Device.f dvN stE stOk
  rw [within1 1, within1 1]
  simp only [Option.bind_some]
  by_cases h1 : 1 ≤ a ∧ a ≤ 8 <;> by_cases h3 : 16 ≤ p ∧ p ≤ 8192 <;> simp [h1, h3]
theorem ref_device_f (a p : Int) : soundserviceref24_Device.f a p = some (dvN a p, stE a 1 p) := by
  unfold soundserviceref24_Device.f dvN stE
  rw [sizes_f]
  simp only [Option.bind_some]
  cases stOk a 1 p <;> rfl
theorem bcell {W w1 : World} (hb : Below W.heap.size W w1) : (∀ b o, b < W.heap.size → w1.cell? ⟨b, o, none⟩ = W.cell? ⟨b, o, none⟩) ∧ (∀ b o, b < W.heap.size → w1.frozen? ⟨b, o, none⟩ = W.frozen? ⟨b, o, none⟩) :=
  ⟨fun b o h => hb.cell (p := ⟨b, o, none⟩) h, fun b o h => hb.frozen (p := ⟨b, o, none⟩) h⟩
theorem sane_calls (w : World) : Calls Try.prog 10 #[] w fun e w' => e = .returned (.bool true) ∧ Below w.heap.size w w' := soundservicelaw24_sane.calls 3 true w (sane_f 0)
theorem mod_calls (a m : Int) (h0 : 1 ≤ m) (h1 : m ≤ 4611686018427387904) (w : World) : Calls Try.prog 11 #[.int .i64 a, .int .i64 m] w fun e w' => e = .returned (.int .i64 (a % m)) ∧ Drawn0 w w' := soundservicemill_Mod.calls a m _ w (mod_f a m h0 h1)
theorem st_calls (a b p : Int) (w : World) : Calls Try.prog 12 #[.int .i64 a, .int .i64 b, .int .i64 p] w fun e w' => e = .returned (.tuple #[.int .i64 (stN a b p), .int .i64 (stE a b p)]) ∧ Below w.heap.size w w' := cost_Stream.calls 3 a b p _ _ w (stream_f a b p)
theorem rst_calls (a b p : Int) (w : World) : Calls Try.prog 13 #[.int .i64 a, .int .i64 b, .int .i64 p] w fun e w' => e = .returned (.tuple #[.int .i64 (stN a b p), .int .i64 (stE a b p)]) ∧ Drawn0 w w' := soundserviceref24_Stream.calls a b p _ _ w (ref_stream_f a b p)
theorem dv_calls (a p : Int) (w : World) : Calls Try.prog 14 #[.int .i64 a, .int .i64 p] w fun e w' => e = .returned (.tuple #[.int .i64 (dvN a p), .int .i64 (stE a 1 p)]) ∧ Below w.heap.size w w' := cost_Device.calls 3 a p _ _ w (device_f a p)
theorem rdv_calls (a p : Int) (w : World) : Calls Try.prog 15 #[.int .i64 a, .int .i64 p] w fun e w' => e = .returned (.tuple #[.int .i64 (dvN a p), .int .i64 (stE a 1 p)]) ∧ Drawn0 w w' := soundserviceref24_Device.calls a p _ _ w (ref_device_f a p)
set_option maxHeartbeats 4000000 in
theorem walk (i o p : Int) (w : World) : Calls Try.prog 3 #[.int .i64 i, .int .i64 o, .int .i64 p] w fun e w' => e = .returned (.bool true) ∧ Below w.heap.size w w' := by
  go_enter Try.func3, Try.ntmps3
  go_wp2_with (first | (go_at_call 10; refine (sane_calls _).mono ?_; rintro e w1 ⟨rfl, hb1⟩) | (go_at_call 11; refine (mod_calls _ _ (by omega) (by omega) _).mono ?_; rintro e w2 ⟨rfl, ⟨n2, rfl⟩⟩))
  generalize i % 10 = i1
  generalize o % 10 = o1
  generalize p % 8300 = p1
  generalize hW : (w1.drewN _).alloc _ = W
  have hB : Aside0 (Below w.heap.size w W) := ⟨by rw [← hW]; exact ((hb1.trans (pw_below_drewN (Below.refl _ _) _)).alloc (by simpa using hb1.size) _)⟩
  have hb0 : Aside0 (w.heap.size ≤ w1.heap.size) := ⟨hb1.size⟩
  have hR : Aside0 (W.heap[w1.heap.size]? = some (.cells #[.int .i64 i, .int .i64 o, .int .i64 p, .int .i64 i1, .int .i64 o1, .int .i64 p1] 23 (0, 0))) := ⟨by rw [← hW]; simp [World.alloc]⟩
  clear hW hb1
  generalize w1.heap.size = b at *
  clear w1
  go_loopw [32] (fun t wr => ∃ k : Nat, k ≤ 2 ∧ t = .int .i64 k ∧ Aside0 (wr.heap[b]? = some (.cells #[.int .i64 i, .int .i64 o, .int .i64 p, .int .i64 i1, .int .i64 o1, .int .i64 p1] 23 (0, 0))) ∧ Aside0 (Below w.heap.size w wr)) (fun t _ => 2 - (intOf t).toNat)
  case atStart => exact ⟨0, by omega, rfl, hR, hB⟩
  case round =>
    obtain ⟨k, hk, rfl, hR1, hB1⟩ := hrel
    have hbs : b < wr.heap.size := (Array.getElem?_eq_some_iff.1 hR1.out).1
    have hcell : ∀ j v, (#[Value.int .i64 i, .int .i64 o, .int .i64 p, .int .i64 i1, .int .i64 o1, .int .i64 p1] : Array Value)[j]? = some v → wr.cell? ⟨b, j, none⟩ = some v := fun j v hv => by
      simp only [World.cell?, hR1.out]; exact hv
    have hc : k = 0 ∨ k = 1 ∨ k = 2 := by omega
    rcases hc with rfl | rfl | rfl
    · have c0 := hcell 0 _ rfl
      have c1 := hcell 1 _ rfl
      have c2 := hcell 2 _ rfl
      clear hcell
      go_wp2_with (first | (go_at_call 12; refine (st_calls _ _ _ _).mono ?_; rintro e wA ⟨rfl, hbA⟩; obtain ⟨hcA, hfA⟩ := bcell hbA; have hzA : wr.heap.size < wA.heap.size := (by have := hbA.size; simp at this; omega)) | (go_at_call 13; refine (rst_calls _ _ _ _).mono ?_; rintro e wB ⟨rfl, ⟨nB, rfl⟩⟩) | (go_at_call 14; refine (dv_calls _ _ _).mono ?_; rintro e wC ⟨rfl, hbC⟩; have hcC : ∀ b o, b < wA.heap.size → wC.cell? ⟨b, o, none⟩ = wA.cell? ⟨b, o, none⟩ := (bcell hbC).1) | (go_at_call 15; refine (rdv_calls _ _ _).mono ?_; rintro e wD ⟨rfl, ⟨nD, rfl⟩⟩))
      go_roundw
      case measure => simp [intOf]
      case rel =>
        refine ⟨1, by omega, by go_num, ⟨?_⟩, ⟨?_⟩⟩
        · refine (hbC.block b (Nat.lt_trans hbs hzA)).trans ((hbA.block b (by simp; omega)).trans ?_)
          exact ((Below.refl wr.heap.size wr).alloc (Nat.le_refl _) _).block b hbs |>.trans hR1.out
        · have hsz := hB1.out.size
          have h1 := (hB1.out.alloc hsz (.cells #[.int .i64 i, .int .i64 o, .int .i64 p] 23)).trans (hbA.mono (by simp; omega))
          exact pw_below_drewN ((pw_below_drewN h1 nB).trans (hbC.mono (by show _ ≤ wA.heap.size; omega))) nD
    · have c0 := hcell 3 _ rfl
      have c1 := hcell 4 _ rfl
      have c2 := hcell 5 _ rfl
      clear hcell
      go_wp2_with (first | (go_at_call 12; refine (st_calls _ _ _ _).mono ?_; rintro e wA ⟨rfl, hbA⟩; obtain ⟨hcA, hfA⟩ := bcell hbA; have hzA : wr.heap.size < wA.heap.size := (by have := hbA.size; simp at this; omega)) | (go_at_call 13; refine (rst_calls _ _ _ _).mono ?_; rintro e wB ⟨rfl, ⟨nB, rfl⟩⟩) | (go_at_call 14; refine (dv_calls _ _ _).mono ?_; rintro e wC ⟨rfl, hbC⟩; have hcC : ∀ b o, b < wA.heap.size → wC.cell? ⟨b, o, none⟩ = wA.cell? ⟨b, o, none⟩ := (bcell hbC).1) | (go_at_call 15; refine (rdv_calls _ _ _).mono ?_; rintro e wD ⟨rfl, ⟨nD, rfl⟩⟩))
      go_roundw
      case measure => simp [intOf]
      case rel =>
        refine ⟨2, by omega, by go_num, ⟨?_⟩, ⟨?_⟩⟩
        · refine (hbC.block b (Nat.lt_trans hbs hzA)).trans ((hbA.block b (by simp; omega)).trans ?_)
          exact ((Below.refl wr.heap.size wr).alloc (Nat.le_refl _) _).block b hbs |>.trans hR1.out
        · have hsz := hB1.out.size
          have h1 := (hB1.out.alloc hsz (.cells #[.int .i64 i1, .int .i64 o1, .int .i64 p1] 23)).trans (hbA.mono (by simp; omega))
          exact pw_below_drewN ((pw_below_drewN h1 nB).trans (hbC.mono (by show _ ≤ wA.heap.size; omega))) nD
    · clear hcell
      go_wp2
      go_ret
      exact ⟨rfl, hB1.out⟩
open Go.ChangeShapes Go.WideShapes Go.ChangeAt Go.RowKit
open Go.ChangeMaps (open_string shut_string)
theorem own : ownKnob Try.prog.godebug = none := by kernel_rfl
set_option maxRecDepth 100000 in
theorem lifted (os : Os) (started : os.Started) (H : Type) (enc : TypeId × Value → H) :
    ReturnsInHanded {} Try.checked os 3 .any (Rows.costNumbersSpec.pre6 enc Try.prog Try.f3 Rows.costNumbersRow.domain false) (Rows.costNumbersSpec.post enc Try.prog Try.f3 false true false false) := by
  refine returnsInHanded_of_change_sized (C := Try.checked) own started (by kernel_rfl) Try.func3
    (ChangeSpec.witness6 (enc := enc) (C := Try.checked) false ⟨#[], #[.int .i64 0, .int .i64 0, .int .i64 0], []⟩ 8 (by kernel_rfl) (by kernel_rfl) (by kernel_rfl) (by kernel_rfl)) ?_
  intro W base args ds gs before hval0 hW hcnd hsz0 _
  have hval : ∀ (j : Nat) t v, Try.f3.params[j]? = some t → args[j]? = some v → Value.okWide Try.prog W .any base t v := hval0
  have hW' := hW
  obtain ⟨p, q, hA0, hV, rfl, hfz, hnd⟩ := hW
  have hA : DataW.TrodAll enc Try.prog W 0 (fun _ => true) true Try.f3.params.toList args.toList ds p := hA0
  rw [Try.params3] at hA hval
  obtain ⟨v0, vs0, d0, ds0, p0, q0, hargs, rfl, rfl, h0, r0⟩ := trodAll_cons hA
  obtain ⟨v1, vs1, d1, ds1, p1, q1, rfl, rfl, rfl, h1, r1⟩ := trodAll_cons r0
  obtain ⟨v2, vs2, d2, ds2, p2, q2, rfl, rfl, rfl, h2, r2⟩ := trodAll_cons r1
  obtain ⟨rfl, rfl, rfl⟩ := trodAll_nil r2
  obtain rfl : args = #[v0, v1, v2] := by cases args; simp_all
  obtain ⟨rfl, rfl⟩ := trodVars_none hV
  obtain ⟨a0, rfl, rfl, rfl, w0⟩ := open_int Try.underlying3 (hval 0 3 v0 rfl rfl) h0
  obtain ⟨a1, rfl, rfl, rfl, w1⟩ := open_int Try.underlying3 (hval 1 3 v1 rfl rfl) h1
  obtain ⟨a2, rfl, rfl, rfl, w2⟩ := open_int Try.underlying3 (hval 2 3 v2 rfl rfl) h2
  clear hA0 hval0 hsz0
  refine (walk a0 a1 a2 W).mono fun e W' ⟨he, bel⟩ => ?_
  subst he
  exact ⟨_, rfl, _, _, _, [], _, [], hW', trodAll_mk1 (shut_bool Try.underlying4 _), (trodAll_cons_mk (shut_int Try.underlying3 w0) (trodAll_cons_mk (shut_int Try.underlying3 w1) (trodAll_cons_mk (shut_int Try.underlying3 w2) trodAll_mk0))), rfl, bel.frame _, fun h => by cases h⟩
theorem over : Rows.costNumbersRow.holds Try.pinned (OpenSpec.ofChange Rows.costNumbersSpec) :=
  OpenClaim.holds_of_wide 3 Try.f3 rfl rfl rfl rfl rfl rfl rfl ⟨rfl, rfl, rfl, rfl, rfl⟩ rfl rfl rfl rfl rfl (by kernel_rfl) Try.func3 (by kernel_rfl)
    (of_decide_eq_true (by kernel_rfl)) (by unfold Func.isWrapper; first | (rw [if_pos (by decide +kernel)]; kernel_rfl) | (rw [if_neg (by decide +kernel)]; exact ⟨rfl, rfl⟩))
    (fun os started H enc _ => lifted os started H enc)
theorem proved : Rows.CostNumbersSaid := over
#print axioms proved
end Go.Proofs.Ytobcpkeapjflhaa.CostN
namespace Go.Proofs.Ytobcpkeapjflhaa
/-- The row, under a short name, for the claim. -/
theorem costNumbers_holds : Rows.CostNumbersSaid := CostN.proved
end Go.Proofs.Ytobcpkeapjflhaa
