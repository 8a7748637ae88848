-- Declarations of the text that this claim uses (slim.py, a program of this session).
import Derived.Test.YtobcpkeapjflhaaZSlSgB
import Derived.Test.YtobcpkeapjflhaaZQx3
namespace Go.Proofs.Ytobcpkeapjflhaa.Q
open Go Go.RowKit Go.Proofs.YtobcpkeapjflhaaW.PrintWords Go.Proofs.YtobcpkeapjflhaaW.PrintLast Go.Proofs.YtobcpkeapjflhaaW.PrintMore
set_option linter.unusedVariables false
set_option linter.unusedSimpArgs false
def cmp3 (a b : Int) : Int := if a < b then -1 else if a > b then 1 else 0
theorem plug_search_1_f (a b c : Int) : plug_search_1.f a b c = some (cmp3 a c) := by
  unfold plug_search_1.f cmp_Compare_uint64.f cmp_isNaN_uint64.f cmp3
  simp only [Option.bind_some, bne_self_eq_false, Bool.false_eq_true, if_false]
  by_cases h1 : a < c <;> by_cases h2 : a > c <;> simp [h1, h2]
def plug_search.f (a0_0 : Int) (l0_1 : List S68) (a1 : Int) : Option (Int × Bool) :=
  some ((bsISg (fun x => cmp3 x.f0 a1) l0_1 l0_1.length 0 l0_1.length : Nat), decide (bsISg (fun x => cmp3 x.f0 a1) l0_1 l0_1.length 0 l0_1.length < l0_1.length) && decide (cmp3 (l0_1.getD (bsISg (fun x => cmp3 x.f0 a1) l0_1 l0_1.length 0 l0_1.length) z68).f0 a1 = 0))
set_option maxHeartbeats 4000000 in
set_option maxRecDepth 100000 in
theorem plug_search.calls (a0_0 : Int) (A0_1 : Option Addr) (c0_1 : Nat) (l0_1 : List S68) (a1 : Int) (r1 : Int) (r2 : Bool) (w : World) (hr0_1 : Kd.C k68 w A0_1 l0_1.length l0_1) (hc0_1 : l0_1.length ≤ c0_1) (h : plug_search.f a0_0 l0_1 a1 = some (r1, r2)) :
    Calls Try.prog 46 #[.agg #[.int .i64 a0_0, .slice A0_1 l0_1.length c0_1], .int .u64 a1] w fun e w' => e = .returned (.tuple #[.int .i64 r1, .bool r2]) ∧ Below w.heap.size w w' := by
  unfold plug_search.f at h
  simp only [Option.some.injEq, Prod.mk.injEq] at h
  obtain ⟨rfl, rfl⟩ := h
  have HR := Lib.hid hr0_1
  have hcon := fun (W : World) (hW : Kd.C k68 W A0_1 l0_1.length l0_1) => bsSg_calls 53 #[] (.int .u64 a1) (fun x => cmp3 x.f0 a1) A0_1 c0_1 l0_1 W hW hc0_1 (Go.Proofs.enters_of Try.func53 (by kernel_rfl) rfl) (fun x W' _ => plug_search_1.calls x.f0 x.f1 a1 _ W' (plug_search_1_f _ _ _))
  clear hr0_1
  generalize bsISg (fun x => cmp3 x.f0 a1) l0_1 l0_1.length 0 l0_1.length = R at hcon ⊢
  generalize (decide (R < l0_1.length) && decide (cmp3 (l0_1.getD R z68).f0 a1 = 0)) = B at hcon ⊢
  have HC := Lib.hid hcon
  clear hcon
  go_enter Try.func46, Try.ntmps46
  go_wp2_with (go_at_call 52; refine (HC.out _ (Kd.C_alloc HR.out _)).mono ?_; rintro e w1 ⟨rfl, hb1⟩)
  go_ret2
  exact ⟨rfl, ((Below.refl _ w).alloc (Nat.le_refl _) _).trans (hb1.mono (by simp))⟩
end Go.Proofs.Ytobcpkeapjflhaa.Q
