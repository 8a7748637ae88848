/- soundserviceref33.Begin: the contract in the printer's form. -/
import Derived.Test.YtobcpkeapjflhaaQx5
import Derived.WalkKit
import Derived.ChangeAlike
namespace Go.Proofs.Ytobcpkeapjflhaa.Q
open Go Go.RowKit Go.Proofs.YtobcpkeapjflhaaW.PrintWords Go.Proofs.YtobcpkeapjflhaaW.PrintLast Go.Proofs.YtobcpkeapjflhaaW.PrintMore
set_option linter.unusedVariables false
set_option linter.unusedSimpArgs false
def soundserviceref33_Begin.f (a0 a1 a2 a3 : Int) : Option (Int × Int × Int × Int × Int) :=
  if (a1 = 0 ∧ a2 = 0) ∨ ¬ (1 ≤ a3 ∧ a3 ≤ 4096) then some (a0, a1, a2, 3, 0) else some (a0, a1, a2, (if a1 = 0 then 2 else 1), a3)
theorem ref33_fades_f (n : Int) : soundserviceref33_fades.f n = some (decide (1 ≤ n ∧ n ≤ 4096)) := by
  unfold soundserviceref33_fades.f
  by_cases h : n ≥ 1
  · rw [if_pos h]; congr 1; simp; omega
  · rw [if_neg h]; congr 1; simp; omega
theorem below_two (w : World) (o1 o2 : Obj) (n : Nat) : Below w.heap.size w (((w.alloc o1).alloc o2).drewN n) := pw_below_drewN (((Below.refl _ _).alloc (Nat.le_refl _) _).alloc (by simp) _) n
set_option maxHeartbeats 4000000 in
set_option maxRecDepth 100000 in
theorem soundserviceref33_Begin.calls (a0 : Int) (a1 : Int) (a2 : Int) (a3 : Int) (r1 : Int) (r2 : Int) (r3 : Int) (r4 : Int) (r5 : Int) (w : World) (h : soundserviceref33_Begin.f a0 a1 a2 a3 = some (r1, r2, r3, r4, r5)) :
    Calls Try.prog 26 #[.int .i64 a0, .int .u64 a1, .int .u64 a2, .int .i64 a3] w fun e w' => e = .returned (.agg #[.int .i64 r1, .int .u64 r2, .int .u64 r3, .int .i64 r4, .int .i64 r5]) ∧ Below w.heap.size w w' := by
  unfold soundserviceref33_Begin.f at h
  have hf : ∀ W, Calls Try.prog 42 #[.int .i64 a3] W fun e w' => e = .returned (.bool (decide (1 ≤ a3 ∧ a3 ≤ 4096))) ∧ Drawn0 W w' := fun W => soundserviceref33_fades.calls a3 _ W (ref33_fades_f a3)
  by_cases h1 : a1 = 0
  · by_cases h2 : a2 = 0
    · rw [if_pos (.inl ⟨h1, h2⟩)] at h
      simp only [Option.some.injEq, Prod.mk.injEq] at h
      obtain ⟨rfl, rfl, rfl, rfl, rfl⟩ := h
      subst h1 h2
      clear hf
      go_enter Try.func26, Try.ntmps26
      go_wp2
      all_goals (refine bodyPost_ret (v := .agg #[.int .i64 a0, .int .u64 0, .int .u64 0, .int .i64 3, .int .i64 0]) (by simp [results, Try.results26, go_sem]) rfl ⟨rfl, ?_⟩; repeat (first | (with_reducible exact Below.refl _ _) | (with_reducible refine Below.setCell ?_ (by simp) _) | (with_reducible refine pw_below_drewN ?_ _) | (with_reducible refine Below.alloc ?_ (by simp) _)))
    · have hz : (a2 == 0) = false := beq_eq_false_iff_ne.mpr h2
      by_cases hq : 1 ≤ a3 ∧ a3 ≤ 4096
      · rw [decide_eq_true hq] at hf
        rw [if_neg (by omega), if_pos h1] at h
        simp only [Option.some.injEq, Prod.mk.injEq] at h
        obtain ⟨rfl, rfl, rfl, rfl, rfl⟩ := h
        subst h1
        clear hq h2
        go_enter Try.func26, Try.ntmps26
        go_wp2_with (go_at_call 42; refine (hf _).mono ?_; rintro e w1 ⟨rfl, ⟨n1, rfl⟩⟩)
        all_goals (refine bodyPost_ret (v := .agg #[.int .i64 a0, .int .u64 0, .int .u64 a2, .int .i64 2, .int .i64 a3]) (by simp [results, Try.results26, go_sem]) rfl ⟨rfl, ?_⟩; repeat (first | (with_reducible exact Below.refl _ _) | (with_reducible refine Below.setCell ?_ (by simp) _) | (with_reducible refine pw_below_drewN ?_ _) | (with_reducible refine Below.alloc ?_ (by simp) _)))
      · rw [decide_eq_false hq] at hf
        rw [if_pos (.inr hq)] at h
        simp only [Option.some.injEq, Prod.mk.injEq] at h
        obtain ⟨rfl, rfl, rfl, rfl, rfl⟩ := h
        subst h1
        clear hq h2
        go_enter Try.func26, Try.ntmps26
        go_wp2_with (go_at_call 42; refine (hf _).mono ?_; rintro e w1 ⟨rfl, ⟨n1, rfl⟩⟩)
        all_goals (refine bodyPost_ret (v := .agg #[.int .i64 a0, .int .u64 0, .int .u64 a2, .int .i64 3, .int .i64 0]) (by simp [results, Try.results26, go_sem]) rfl ⟨rfl, ?_⟩; repeat (first | (with_reducible exact Below.refl _ _) | (with_reducible refine Below.setCell ?_ (by simp) _) | (with_reducible refine pw_below_drewN ?_ _) | (with_reducible refine Below.alloc ?_ (by simp) _)))
  · have hz : (a1 == 0) = false := beq_eq_false_iff_ne.mpr h1
    by_cases hq : 1 ≤ a3 ∧ a3 ≤ 4096
    · rw [decide_eq_true hq] at hf
      rw [if_neg (by omega), if_neg h1] at h
      simp only [Option.some.injEq, Prod.mk.injEq] at h
      obtain ⟨rfl, rfl, rfl, rfl, rfl⟩ := h
      clear hq h1
      go_enter Try.func26, Try.ntmps26
      go_wp2_with (go_at_call 42; refine (hf _).mono ?_; rintro e w1 ⟨rfl, ⟨n1, rfl⟩⟩)
      all_goals (refine bodyPost_ret (v := .agg #[.int .i64 a0, .int .u64 a1, .int .u64 a2, .int .i64 1, .int .i64 a3]) (by simp [results, Try.results26, go_sem]) rfl ⟨rfl, ?_⟩; repeat (first | (with_reducible exact Below.refl _ _) | (with_reducible refine Below.setCell ?_ (by simp) _) | (with_reducible refine pw_below_drewN ?_ _) | (with_reducible refine Below.alloc ?_ (by simp) _)))
    · rw [decide_eq_false hq] at hf
      rw [if_pos (.inr hq)] at h
      simp only [Option.some.injEq, Prod.mk.injEq] at h
      obtain ⟨rfl, rfl, rfl, rfl, rfl⟩ := h
      clear hq h1
      go_enter Try.func26, Try.ntmps26
      go_wp2_with (go_at_call 42; refine (hf _).mono ?_; rintro e w1 ⟨rfl, ⟨n1, rfl⟩⟩)
      all_goals (refine bodyPost_ret (v := .agg #[.int .i64 a0, .int .u64 a1, .int .u64 a2, .int .i64 3, .int .i64 0]) (by simp [results, Try.results26, go_sem]) rfl ⟨rfl, ?_⟩; repeat (first | (with_reducible exact Below.refl _ _) | (with_reducible refine Below.setCell ?_ (by simp) _) | (with_reducible refine pw_below_drewN ?_ _) | (with_reducible refine Below.alloc ?_ (by simp) _)))
end Go.Proofs.Ytobcpkeapjflhaa.Q
