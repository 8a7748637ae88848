-- Written by a program of this session (wip/tools/given.py) over the translation: Lean checks it.
import Derived.Test.YtobcpkeapjflhaaQx0
import Derived.Test.YtobcpkeapjflhaaQx3
namespace Go.Proofs.Ytobcpkeapjflhaa.Q
open Go.RowKit Go.Proofs.YtobcpkeapjflhaaW.PrintWords Go.Proofs.YtobcpkeapjflhaaW.PrintLast Go.Proofs.YtobcpkeapjflhaaW.PrintMore
attribute [local go_sem] max2_int min2_int max_two min_two max_three min_three max_four min_four   -- for this text's walks alone
set_option linter.unusedVariables false
set_option linter.unusedSimpArgs false

/-! ### soundserviceref24_Share: function 19 -/
def soundserviceref24_Share.f (a0 : Int) (a1 : Int) : Option (Int) := if a0 < 0 then (some 0) else (if a0 > 1099511627776 then (some 0) else (if a1 < 1 then (some 0) else (if a1 > 1099511627776 then (some 0) else (if a1 = 0 then (none) else (some (wrap64 (Int.tdiv (wrap64 ((wrap64 ((wrap64 (a0 * 100)) + a1)) - 1)) a1)))))))
set_option maxHeartbeats 8000000 in
set_option maxRecDepth 100000 in
theorem soundserviceref24_Share.calls (a0 : Int) (a1 : Int) (r : Int) (w : World) (h : soundserviceref24_Share.f a0 a1 = some r) :
    Calls Try.prog 19 #[.int .i64 a0, .int .i64 a1] w fun e w' => e = .returned (.int .i64 r) ∧ Drawn0 w w' := by
  have H : (if a0 < 0 then (some 0) else (if a0 > 1099511627776 then (some 0) else (if a1 < 1 then (some 0) else (if a1 > 1099511627776 then (some 0) else (if a1 = 0 then (none) else (some (wrap64 (Int.tdiv (wrap64 ((wrap64 ((wrap64 (a0 * 100)) + a1)) - 1)) a1)))))))) = some r := h
  clear h
  by_cases c3 : a0 < 0
  · rw [if_pos c3] at H
    have c3b0 : decide (a0 < 0) = true := decide_eq_true c3
    clear c3
    obtain rfl := Option.some.inj H
    go_enter Try.func19, Try.ntmps19
    go_wp2
    go_ret
    exact ⟨by first | rfl | (simp; done) | (simp [*]; done), by repeat (first | exact Drawn0.refl _ | apply Drawn0.step)⟩
  · rw [if_neg c3] at H
    have c3b0 : decide (a0 < 0) = false := decide_eq_false c3
    clear c3
    by_cases c4 : a0 > 1099511627776
    · rw [if_pos c4] at H
      have c4b0 : decide (1099511627776 < a0) = true := decide_eq_true c4
      clear c4
      obtain rfl := Option.some.inj H
      go_enter Try.func19, Try.ntmps19
      go_wp2
      go_ret
      exact ⟨by first | rfl | (simp; done) | (simp [*]; done), by repeat (first | exact Drawn0.refl _ | apply Drawn0.step)⟩
    · rw [if_neg c4] at H
      have c4b0 : decide (1099511627776 < a0) = false := decide_eq_false c4
      clear c4
      by_cases c5 : a1 < 1
      · rw [if_pos c5] at H
        have c5b0 : decide (a1 < 1) = true := decide_eq_true c5
        clear c5
        obtain rfl := Option.some.inj H
        go_enter Try.func19, Try.ntmps19
        go_wp2
        go_ret
        exact ⟨by first | rfl | (simp; done) | (simp [*]; done), by repeat (first | exact Drawn0.refl _ | apply Drawn0.step)⟩
      · rw [if_neg c5] at H
        have c5b0 : decide (a1 < 1) = false := decide_eq_false c5
        clear c5
        by_cases c6 : a1 > 1099511627776
        · rw [if_pos c6] at H
          have c6b0 : decide (1099511627776 < a1) = true := decide_eq_true c6
          clear c6
          obtain rfl := Option.some.inj H
          go_enter Try.func19, Try.ntmps19
          go_wp2
          go_ret
          exact ⟨by first | rfl | (simp; done) | (simp [*]; done), by repeat (first | exact Drawn0.refl _ | apply Drawn0.step)⟩
        · rw [if_neg c6] at H
          have c6b0 : decide (1099511627776 < a1) = false := decide_eq_false c6
          clear c6
          by_cases c7 : a1 = 0
          · rw [if_pos c7] at H
            exact absurd H (by simp)
          · rw [if_neg c7] at H
            have c7b0 : (a1 == 0) = false := beq_eq_false_iff_ne.mpr c7
            have c7b1 : (a1 != 0) = true := bne_iff_ne.mpr c7
            obtain rfl := Option.some.inj H
            go_enter Try.func19, Try.ntmps19
            go_wp2
            go_ret
            exact ⟨by first | rfl | (simp; done) | (simp [*]; done), by repeat (first | exact Drawn0.refl _ | apply Drawn0.step)⟩

/-! ### soundservicelaw24_CostSums: function 4 -/
def soundservicelaw24_CostSums.f (k : Nat) (l0 : List Int) (a1 : Int) (a2 : Int) : Option (Bool) := (soundservicelaw24_sane.f k).bind fun t141 => (if t141 = true then (if (l0.length : Int) > 100 then (some true) else ((cost_Total.f k l0).bind fun t142 => ((soundserviceref24_Total.f k l0).bind fun t143 => (if t142 = t143 then ((cost_Share.f k a1 a2).bind fun t144 => ((soundserviceref24_Share.f a1 a2).bind fun t145 => (if t144 = t145 then ((soundservicemill_Mod.f a1 5000).bind fun t146 => ((soundservicemill_Mod.f a2 5000).bind fun t147 => ((cost_Share.f k t146 (wrap64 (1 + t147))).bind fun t148 => ((soundserviceref24_Share.f t146 (wrap64 (1 + t147))).bind fun t149 => (some (t148 == t149)))))) else (some false)))) else (some false))))) else (some false))
theorem soundservicelaw24_CostSums.mono : ∀ a0 a1 a2 k, LeO (soundservicelaw24_CostSums.f k a0 a1 a2) (soundservicelaw24_CostSums.f (k + 1) a0 a1 a2) := by
  intro a0 a1 a2 k
  unfold soundservicelaw24_CostSums.f
  repeat' first
      | (with_reducible exact cost_Share.mono _ _ _)
      | (with_reducible exact cost_Total.mono _ _)
      | (with_reducible exact soundservicelaw24_sane.mono _)
      | (with_reducible exact soundserviceref24_Total.mono _ _)
      | (with_reducible exact LeO.refl _)
      | (with_reducible exact LeO.none _)
      | (with_reducible refine LeO.ite ?_ ?_)
      | (with_reducible refine LeO.bind ?_ (fun _ => ?_))
      | exact cost_Share.mono _ _ _
      | exact cost_Total.mono _ _
      | exact soundservicelaw24_sane.mono _
      | exact soundserviceref24_Total.mono _ _
      | exact LeO.none _
      | refine LeO.ite ?_ ?_
      | refine LeO.bind ?_ (fun _ => ?_)
set_option maxHeartbeats 8000000 in
set_option maxRecDepth 100000 in
theorem soundservicelaw24_CostSums.calls (k : Nat) (A0 : Option Addr) (c0 : Nat) (l0 : List Int) (a1 : Int) (a2 : Int) (r : Bool) (w : World) (hr0 : Kd.C (Kd.int .i64) w A0 l0.length l0) (hc0 : l0.length ≤ c0) (h : soundservicelaw24_CostSums.f k l0 a1 a2 = some r) :
    Calls Try.prog 4 #[.slice A0 l0.length c0, .int .i64 a1, .int .i64 a2] w fun e w' => e = .returned (.bool r) ∧ Below w.heap.size w w' := by
  have HR0 := Aside0.mk hr0
  have HC0 := Aside0.mk hc0
  clear hr0 hc0
  have HB := Aside0.mk (Below.refl w.heap.size w)
  have H : ((soundservicelaw24_sane.f k).bind fun t141 => (if t141 = true then (if (l0.length : Int) > 100 then (some true) else ((cost_Total.f k l0).bind fun t142 => ((soundserviceref24_Total.f k l0).bind fun t143 => (if t142 = t143 then ((cost_Share.f k a1 a2).bind fun t144 => ((soundserviceref24_Share.f a1 a2).bind fun t145 => (if t144 = t145 then ((soundservicemill_Mod.f a1 5000).bind fun t146 => ((soundservicemill_Mod.f a2 5000).bind fun t147 => ((cost_Share.f k t146 (wrap64 (1 + t147))).bind fun t148 => ((soundserviceref24_Share.f t146 (wrap64 (1 + t147))).bind fun t149 => (some (t148 == t149)))))) else (some false)))) else (some false))))) else (some false))) = some r := h
  clear h
  replace H := Option.bind_eq_some_iff.mp H
  obtain ⟨t141, A40, H⟩ := H
  replace H : (if t141 = true then (if (l0.length : Int) > 100 then (some true) else ((cost_Total.f k l0).bind fun t142 => ((soundserviceref24_Total.f k l0).bind fun t143 => (if t142 = t143 then ((cost_Share.f k a1 a2).bind fun t144 => ((soundserviceref24_Share.f a1 a2).bind fun t145 => (if t144 = t145 then ((soundservicemill_Mod.f a1 5000).bind fun t146 => ((soundservicemill_Mod.f a2 5000).bind fun t147 => ((cost_Share.f k t146 (wrap64 (1 + t147))).bind fun t148 => ((soundserviceref24_Share.f t146 (wrap64 (1 + t147))).bind fun t149 => (some (t148 == t149)))))) else (some false)))) else (some false))))) else (some false)) = some r := H
  have A4 := Aside0.mk A40
  clear A40
  by_cases c5 : t141 = true
  · subst c5
    have H1 : (if (l0.length : Int) > 100 then (some true) else ((cost_Total.f k l0).bind fun t142 => ((soundserviceref24_Total.f k l0).bind fun t143 => (if t142 = t143 then ((cost_Share.f k a1 a2).bind fun t144 => ((soundserviceref24_Share.f a1 a2).bind fun t145 => (if t144 = t145 then ((soundservicemill_Mod.f a1 5000).bind fun t146 => ((soundservicemill_Mod.f a2 5000).bind fun t147 => ((cost_Share.f k t146 (wrap64 (1 + t147))).bind fun t148 => ((soundserviceref24_Share.f t146 (wrap64 (1 + t147))).bind fun t149 => (some (t148 == t149)))))) else (some false)))) else (some false))))) = some r := by rw [if_pos rfl] at H; exact H
    clear H
    have H := H1
    clear H1
    by_cases c6 : (l0.length : Int) > 100
    · rw [if_pos c6] at H
      have c6b0 : decide (100 < (l0.length : Int)) = true := decide_eq_true c6
      have c6b1 : decide (100 < l0.length) = true := decide_eq_true (by omega)
      clear c6
      obtain rfl := Option.some.inj H
      go_enter Try.func4, Try.ntmps4
      go_wp2_with (first | ((with_reducible refine gate_callee (f := 10) rfl ?_); refine goesL_ (some 7) rfl rfl Try.func10 (by kernel_rfl) rfl #[] rfl (by (try simp only [List.map_toArray, List.map_cons, List.map_nil]); first | done | rfl | (simp only [List.length_drop, List.length_take]; rfl)) ?_; (with_reducible refine (soundservicelaw24_sane.calls k  true _ A4.out).mono ?_); rintro e w7 ⟨rfl, hb⟩; refine ⟨_, rfl, ?_⟩; have n0_ := Aside0.mk (below_step (by repeat (first | (with_reducible first | exact HB.out | apply below_alloc | apply pw_below_drewN | apply below_drew1) | exact HB.out)) hb); clear HB; have HB := n0_; clear n0_; (try clear hb); (try clear hb2); (try clear hk); (try clear hi)))
      go_ret
      exact ⟨by first | rfl | (simp [errW_none, errW_some] <;> rfl) | (simp [*, errW_none, errW_some] <;> rfl), by repeat (first | (with_reducible first | exact HB.out | apply below_alloc | apply pw_below_drewN | apply below_drew1) | exact HB.out)⟩
    · rw [if_neg c6] at H
      have c6b0 : decide (100 < (l0.length : Int)) = false := decide_eq_false c6
      have c6b1 : decide (100 < l0.length) = false := decide_eq_false (by omega)
      clear c6
      replace H := Option.bind_eq_some_iff.mp H
      obtain ⟨t142, A80, H⟩ := H
      replace H : ((soundserviceref24_Total.f k l0).bind fun t143 => (if t142 = t143 then ((cost_Share.f k a1 a2).bind fun t144 => ((soundserviceref24_Share.f a1 a2).bind fun t145 => (if t144 = t145 then ((soundservicemill_Mod.f a1 5000).bind fun t146 => ((soundservicemill_Mod.f a2 5000).bind fun t147 => ((cost_Share.f k t146 (wrap64 (1 + t147))).bind fun t148 => ((soundserviceref24_Share.f t146 (wrap64 (1 + t147))).bind fun t149 => (some (t148 == t149)))))) else (some false)))) else (some false))) = some r := H
      have A8 := Aside0.mk A80
      clear A80
      replace H := Option.bind_eq_some_iff.mp H
      obtain ⟨t143, A90, H⟩ := H
      replace H : (if t142 = t143 then ((cost_Share.f k a1 a2).bind fun t144 => ((soundserviceref24_Share.f a1 a2).bind fun t145 => (if t144 = t145 then ((soundservicemill_Mod.f a1 5000).bind fun t146 => ((soundservicemill_Mod.f a2 5000).bind fun t147 => ((cost_Share.f k t146 (wrap64 (1 + t147))).bind fun t148 => ((soundserviceref24_Share.f t146 (wrap64 (1 + t147))).bind fun t149 => (some (t148 == t149)))))) else (some false)))) else (some false)) = some r := H
      have A9 := Aside0.mk A90
      clear A90
      by_cases c10 : t142 = t143
      · rw [if_pos c10] at H
        have c10b0 : (t142 == t143) = true := beq_iff_eq.mpr c10
        have c10b1 : (t142 != t143) = false := bne_eq_false_iff_eq.mpr c10
        clear c10
        replace H := Option.bind_eq_some_iff.mp H
        obtain ⟨t144, A110, H⟩ := H
        replace H : ((soundserviceref24_Share.f a1 a2).bind fun t145 => (if t144 = t145 then ((soundservicemill_Mod.f a1 5000).bind fun t146 => ((soundservicemill_Mod.f a2 5000).bind fun t147 => ((cost_Share.f k t146 (wrap64 (1 + t147))).bind fun t148 => ((soundserviceref24_Share.f t146 (wrap64 (1 + t147))).bind fun t149 => (some (t148 == t149)))))) else (some false))) = some r := H
        have A11 := Aside0.mk A110
        clear A110
        replace H := Option.bind_eq_some_iff.mp H
        obtain ⟨t145, A120, H⟩ := H
        replace H : (if t144 = t145 then ((soundservicemill_Mod.f a1 5000).bind fun t146 => ((soundservicemill_Mod.f a2 5000).bind fun t147 => ((cost_Share.f k t146 (wrap64 (1 + t147))).bind fun t148 => ((soundserviceref24_Share.f t146 (wrap64 (1 + t147))).bind fun t149 => (some (t148 == t149)))))) else (some false)) = some r := H
        have A12 := Aside0.mk A120
        clear A120
        by_cases c13 : t144 = t145
        · rw [if_pos c13] at H
          have c13b0 : (t144 == t145) = true := beq_iff_eq.mpr c13
          have c13b1 : (t144 != t145) = false := bne_eq_false_iff_eq.mpr c13
          clear c13
          replace H := Option.bind_eq_some_iff.mp H
          obtain ⟨t146, A140, H⟩ := H
          replace H : ((soundservicemill_Mod.f a2 5000).bind fun t147 => ((cost_Share.f k t146 (wrap64 (1 + t147))).bind fun t148 => ((soundserviceref24_Share.f t146 (wrap64 (1 + t147))).bind fun t149 => (some (t148 == t149))))) = some r := H
          have A14 := Aside0.mk A140
          clear A140
          replace H := Option.bind_eq_some_iff.mp H
          obtain ⟨t147, A150, H⟩ := H
          replace H : ((cost_Share.f k t146 (wrap64 (1 + t147))).bind fun t148 => ((soundserviceref24_Share.f t146 (wrap64 (1 + t147))).bind fun t149 => (some (t148 == t149)))) = some r := H
          have A15 := Aside0.mk A150
          clear A150
          replace H := Option.bind_eq_some_iff.mp H
          obtain ⟨t148, A160, H⟩ := H
          replace H : ((soundserviceref24_Share.f t146 (wrap64 (1 + t147))).bind fun t149 => (some (t148 == t149))) = some r := H
          have A16 := Aside0.mk A160
          clear A160
          replace H := Option.bind_eq_some_iff.mp H
          obtain ⟨t149, A170, H⟩ := H
          replace H : (some (t148 == t149)) = some r := H
          have A17 := Aside0.mk A170
          clear A170
          obtain rfl := Option.some.inj H
          go_enter Try.func4, Try.ntmps4
          go_wp2_with (first | ((with_reducible refine gate_callee (f := 10) rfl ?_); refine goesL_ (some 7) rfl rfl Try.func10 (by kernel_rfl) rfl #[] rfl (by (try simp only [List.map_toArray, List.map_cons, List.map_nil]); first | done | rfl | (simp only [List.length_drop, List.length_take]; rfl)) ?_; (with_reducible refine (soundservicelaw24_sane.calls k  true _ A4.out).mono ?_); rintro e w18 ⟨rfl, hb⟩; refine ⟨_, rfl, ?_⟩; have n0_ := Aside0.mk (below_step (by repeat (first | (with_reducible first | exact HB.out | apply below_alloc | apply pw_below_drewN | apply below_drew1) | exact HB.out)) hb); clear HB; have HB := n0_; clear n0_; (try clear hb); (try clear hb2); (try clear hk); (try clear hi)) | ((with_reducible refine gate_callee (f := 16) rfl ?_); refine goesL_ (some 13) rfl rfl Try.func16 (by kernel_rfl) rfl #[.slice A0 l0.length c0] rfl (by (try simp only [List.map_toArray, List.map_cons, List.map_nil]); first | done | rfl | (simp only [List.length_drop, List.length_take]; rfl)) ?_; (with_reducible refine (cost_Total.calls k _ _ l0 t142 _ ?side1 ?side2 A8.out).mono ?_); (case side1 => repeat (first | exact (Kd.C_below HR0.out HB.out) | (with_reducible refine Kd.C_alloc ?_ _) | (with_reducible refine Kd.C_drewN ?_ _) | (with_reducible refine Kd.C_drew ?_))); (case side2 => exact HC0.out); rintro e w19 ⟨rfl, hb⟩; refine ⟨_, rfl, ?_⟩; have n0_ := Aside0.mk (below_step (by repeat (first | (with_reducible first | exact HB.out | apply below_alloc | apply pw_below_drewN | apply below_drew1) | exact HB.out)) hb); clear HB; have HB := n0_; clear n0_; (try clear hb); (try clear hb2); (try clear hk); (try clear hi)) | ((with_reducible refine gate_callee (f := 17) rfl ?_); refine goesL_ (some 15) rfl rfl Try.func17 (by kernel_rfl) rfl #[.slice A0 l0.length c0] rfl (by (try simp only [List.map_toArray, List.map_cons, List.map_nil]); first | done | rfl | (simp only [List.length_drop, List.length_take]; rfl)) ?_; (with_reducible refine (soundserviceref24_Total.calls k _ _ l0 t143 _ ?side1 ?side2 A9.out).mono ?_); (case side1 => repeat (first | exact (Kd.C_below HR0.out HB.out) | (with_reducible refine Kd.C_alloc ?_ _) | (with_reducible refine Kd.C_drewN ?_ _) | (with_reducible refine Kd.C_drew ?_))); (case side2 => exact HC0.out); rintro e w20 ⟨rfl, hb⟩; refine ⟨_, rfl, ?_⟩; have n0_ := Aside0.mk (below_step (by repeat (first | (with_reducible first | exact HB.out | apply below_alloc | apply pw_below_drewN | apply below_drew1) | exact HB.out)) hb); clear HB; have HB := n0_; clear n0_; (try clear hb); (try clear hb2); (try clear hk); (try clear hi)) | (go_at_call 18; (with_reducible refine (cost_Share.calls k a1 a2 t144 _ A11.out).mono ?_); rintro e w21 ⟨rfl, hb⟩; have n0_ := Aside0.mk (below_step (by repeat (first | (with_reducible first | exact HB.out | apply below_alloc | apply pw_below_drewN | apply below_drew1) | exact HB.out)) hb); clear HB; have HB := n0_; clear n0_; (try clear hb); (try clear hb2); (try clear hk); (try clear hi)) | (go_at_call 19; (with_reducible refine (soundserviceref24_Share.calls a1 a2 t145 _ A12.out).mono ?_); rintro e w' ⟨rfl, ⟨nd, rfl⟩⟩) | (go_at_call 11; (with_reducible refine (soundservicemill_Mod.calls a1 5000 t146 _ A14.out).mono ?_); rintro e w' ⟨rfl, ⟨nd, rfl⟩⟩) | (go_at_call 11; (with_reducible refine (soundservicemill_Mod.calls a2 5000 t147 _ A15.out).mono ?_); rintro e w' ⟨rfl, ⟨nd, rfl⟩⟩) | (go_at_call 18; (with_reducible refine (cost_Share.calls k t146 (wrap64 (1 + t147)) t148 _ A16.out).mono ?_); rintro e w22 ⟨rfl, hb⟩; have n0_ := Aside0.mk (below_step (by repeat (first | (with_reducible first | exact HB.out | apply below_alloc | apply pw_below_drewN | apply below_drew1) | exact HB.out)) hb); clear HB; have HB := n0_; clear n0_; (try clear hb); (try clear hb2); (try clear hk); (try clear hi)) | (go_at_call 19; (with_reducible refine (soundserviceref24_Share.calls t146 (wrap64 (1 + t147)) t149 _ A17.out).mono ?_); rintro e w' ⟨rfl, ⟨nd, rfl⟩⟩))
          go_ret
          exact ⟨by first | rfl | (simp [errW_none, errW_some] <;> rfl) | (simp [*, errW_none, errW_some] <;> rfl), by repeat (first | (with_reducible first | exact HB.out | apply below_alloc | apply pw_below_drewN | apply below_drew1) | exact HB.out)⟩
        · rw [if_neg c13] at H
          have c13b0 : (t144 == t145) = false := beq_eq_false_iff_ne.mpr c13
          have c13b1 : (t144 != t145) = true := bne_iff_ne.mpr c13
          obtain rfl := Option.some.inj H
          go_enter Try.func4, Try.ntmps4
          go_wp2_with (first | ((with_reducible refine gate_callee (f := 10) rfl ?_); refine goesL_ (some 7) rfl rfl Try.func10 (by kernel_rfl) rfl #[] rfl (by (try simp only [List.map_toArray, List.map_cons, List.map_nil]); first | done | rfl | (simp only [List.length_drop, List.length_take]; rfl)) ?_; (with_reducible refine (soundservicelaw24_sane.calls k  true _ A4.out).mono ?_); rintro e w23 ⟨rfl, hb⟩; refine ⟨_, rfl, ?_⟩; have n0_ := Aside0.mk (below_step (by repeat (first | (with_reducible first | exact HB.out | apply below_alloc | apply pw_below_drewN | apply below_drew1) | exact HB.out)) hb); clear HB; have HB := n0_; clear n0_; (try clear hb); (try clear hb2); (try clear hk); (try clear hi)) | ((with_reducible refine gate_callee (f := 16) rfl ?_); refine goesL_ (some 13) rfl rfl Try.func16 (by kernel_rfl) rfl #[.slice A0 l0.length c0] rfl (by (try simp only [List.map_toArray, List.map_cons, List.map_nil]); first | done | rfl | (simp only [List.length_drop, List.length_take]; rfl)) ?_; (with_reducible refine (cost_Total.calls k _ _ l0 t142 _ ?side1 ?side2 A8.out).mono ?_); (case side1 => repeat (first | exact (Kd.C_below HR0.out HB.out) | (with_reducible refine Kd.C_alloc ?_ _) | (with_reducible refine Kd.C_drewN ?_ _) | (with_reducible refine Kd.C_drew ?_))); (case side2 => exact HC0.out); rintro e w24 ⟨rfl, hb⟩; refine ⟨_, rfl, ?_⟩; have n0_ := Aside0.mk (below_step (by repeat (first | (with_reducible first | exact HB.out | apply below_alloc | apply pw_below_drewN | apply below_drew1) | exact HB.out)) hb); clear HB; have HB := n0_; clear n0_; (try clear hb); (try clear hb2); (try clear hk); (try clear hi)) | ((with_reducible refine gate_callee (f := 17) rfl ?_); refine goesL_ (some 15) rfl rfl Try.func17 (by kernel_rfl) rfl #[.slice A0 l0.length c0] rfl (by (try simp only [List.map_toArray, List.map_cons, List.map_nil]); first | done | rfl | (simp only [List.length_drop, List.length_take]; rfl)) ?_; (with_reducible refine (soundserviceref24_Total.calls k _ _ l0 t143 _ ?side1 ?side2 A9.out).mono ?_); (case side1 => repeat (first | exact (Kd.C_below HR0.out HB.out) | (with_reducible refine Kd.C_alloc ?_ _) | (with_reducible refine Kd.C_drewN ?_ _) | (with_reducible refine Kd.C_drew ?_))); (case side2 => exact HC0.out); rintro e w25 ⟨rfl, hb⟩; refine ⟨_, rfl, ?_⟩; have n0_ := Aside0.mk (below_step (by repeat (first | (with_reducible first | exact HB.out | apply below_alloc | apply pw_below_drewN | apply below_drew1) | exact HB.out)) hb); clear HB; have HB := n0_; clear n0_; (try clear hb); (try clear hb2); (try clear hk); (try clear hi)) | (go_at_call 18; (with_reducible refine (cost_Share.calls k a1 a2 t144 _ A11.out).mono ?_); rintro e w26 ⟨rfl, hb⟩; have n0_ := Aside0.mk (below_step (by repeat (first | (with_reducible first | exact HB.out | apply below_alloc | apply pw_below_drewN | apply below_drew1) | exact HB.out)) hb); clear HB; have HB := n0_; clear n0_; (try clear hb); (try clear hb2); (try clear hk); (try clear hi)) | (go_at_call 19; (with_reducible refine (soundserviceref24_Share.calls a1 a2 t145 _ A12.out).mono ?_); rintro e w' ⟨rfl, ⟨nd, rfl⟩⟩))
          go_ret
          exact ⟨by first | rfl | (simp [errW_none, errW_some] <;> rfl) | (simp [*, errW_none, errW_some] <;> rfl), by repeat (first | (with_reducible first | exact HB.out | apply below_alloc | apply pw_below_drewN | apply below_drew1) | exact HB.out)⟩
      · rw [if_neg c10] at H
        have c10b0 : (t142 == t143) = false := beq_eq_false_iff_ne.mpr c10
        have c10b1 : (t142 != t143) = true := bne_iff_ne.mpr c10
        obtain rfl := Option.some.inj H
        go_enter Try.func4, Try.ntmps4
        go_wp2_with (first | ((with_reducible refine gate_callee (f := 10) rfl ?_); refine goesL_ (some 7) rfl rfl Try.func10 (by kernel_rfl) rfl #[] rfl (by (try simp only [List.map_toArray, List.map_cons, List.map_nil]); first | done | rfl | (simp only [List.length_drop, List.length_take]; rfl)) ?_; (with_reducible refine (soundservicelaw24_sane.calls k  true _ A4.out).mono ?_); rintro e w27 ⟨rfl, hb⟩; refine ⟨_, rfl, ?_⟩; have n0_ := Aside0.mk (below_step (by repeat (first | (with_reducible first | exact HB.out | apply below_alloc | apply pw_below_drewN | apply below_drew1) | exact HB.out)) hb); clear HB; have HB := n0_; clear n0_; (try clear hb); (try clear hb2); (try clear hk); (try clear hi)) | ((with_reducible refine gate_callee (f := 16) rfl ?_); refine goesL_ (some 13) rfl rfl Try.func16 (by kernel_rfl) rfl #[.slice A0 l0.length c0] rfl (by (try simp only [List.map_toArray, List.map_cons, List.map_nil]); first | done | rfl | (simp only [List.length_drop, List.length_take]; rfl)) ?_; (with_reducible refine (cost_Total.calls k _ _ l0 t142 _ ?side1 ?side2 A8.out).mono ?_); (case side1 => repeat (first | exact (Kd.C_below HR0.out HB.out) | (with_reducible refine Kd.C_alloc ?_ _) | (with_reducible refine Kd.C_drewN ?_ _) | (with_reducible refine Kd.C_drew ?_))); (case side2 => exact HC0.out); rintro e w28 ⟨rfl, hb⟩; refine ⟨_, rfl, ?_⟩; have n0_ := Aside0.mk (below_step (by repeat (first | (with_reducible first | exact HB.out | apply below_alloc | apply pw_below_drewN | apply below_drew1) | exact HB.out)) hb); clear HB; have HB := n0_; clear n0_; (try clear hb); (try clear hb2); (try clear hk); (try clear hi)) | ((with_reducible refine gate_callee (f := 17) rfl ?_); refine goesL_ (some 15) rfl rfl Try.func17 (by kernel_rfl) rfl #[.slice A0 l0.length c0] rfl (by (try simp only [List.map_toArray, List.map_cons, List.map_nil]); first | done | rfl | (simp only [List.length_drop, List.length_take]; rfl)) ?_; (with_reducible refine (soundserviceref24_Total.calls k _ _ l0 t143 _ ?side1 ?side2 A9.out).mono ?_); (case side1 => repeat (first | exact (Kd.C_below HR0.out HB.out) | (with_reducible refine Kd.C_alloc ?_ _) | (with_reducible refine Kd.C_drewN ?_ _) | (with_reducible refine Kd.C_drew ?_))); (case side2 => exact HC0.out); rintro e w29 ⟨rfl, hb⟩; refine ⟨_, rfl, ?_⟩; have n0_ := Aside0.mk (below_step (by repeat (first | (with_reducible first | exact HB.out | apply below_alloc | apply pw_below_drewN | apply below_drew1) | exact HB.out)) hb); clear HB; have HB := n0_; clear n0_; (try clear hb); (try clear hb2); (try clear hk); (try clear hi)))
        go_ret
        exact ⟨by first | rfl | (simp [errW_none, errW_some] <;> rfl) | (simp [*, errW_none, errW_some] <;> rfl), by repeat (first | (with_reducible first | exact HB.out | apply below_alloc | apply pw_below_drewN | apply below_drew1) | exact HB.out)⟩
  · replace c5 := Bool.eq_false_iff.mpr c5
    subst c5
    have H1 : (some false) = some r := by rw [if_neg (show ¬ (false = true) by decide)] at H; exact H
    clear H
    have H := H1
    clear H1
    obtain rfl := Option.some.inj H
    go_enter Try.func4, Try.ntmps4
    go_wp2_with (first | ((with_reducible refine gate_callee (f := 10) rfl ?_); refine goesL_ (some 7) rfl rfl Try.func10 (by kernel_rfl) rfl #[] rfl (by (try simp only [List.map_toArray, List.map_cons, List.map_nil]); first | done | rfl | (simp only [List.length_drop, List.length_take]; rfl)) ?_; (with_reducible refine (soundservicelaw24_sane.calls k  false _ A4.out).mono ?_); rintro e w30 ⟨rfl, hb⟩; refine ⟨_, rfl, ?_⟩; have n0_ := Aside0.mk (below_step (by repeat (first | (with_reducible first | exact HB.out | apply below_alloc | apply pw_below_drewN | apply below_drew1) | exact HB.out)) hb); clear HB; have HB := n0_; clear n0_; (try clear hb); (try clear hb2); (try clear hk); (try clear hi)))
    go_ret
    exact ⟨by first | rfl | (simp [errW_none, errW_some] <;> rfl) | (simp [*, errW_none, errW_some] <;> rfl), by repeat (first | (with_reducible first | exact HB.out | apply below_alloc | apply pw_below_drewN | apply below_drew1) | exact HB.out)⟩

/-- THE ONE PURE STATEMENT of soundservicelaw24_CostSums: yours. -/
def soundservicelaw24_CostSums.Pure : Prop := ∀ (l0 : List Int) (a1 : Int) (a2 : Int), l0.length ≤ maxLen → l0.length * 8 ≤ 140737488351232 → (∀ x ∈ l0, (Lit.int .i64 x).wf = true) → (Lit.int .i64 a1).wf = true → (Lit.int .i64 a2).wf = true → ∃ k, soundservicelaw24_CostSums.f k l0 a1 a2 = some true
theorem soundservicelaw24_CostSums.walk (P : soundservicelaw24_CostSums.Pure) (a0 : Option Addr) (len0 cap0 : Nat) (z0 : List Int) (a1 : Int) (a2 : Int) (w : World) (w0 : (a0 = none ∧ len0 = 0 ∧ cap0 = 0 ∧ z0 = []) ∨ ∃ x, a0 = some x ∧ len0 ≤ cap0 ∧ cap0 ≤ maxLen ∧ z0.length = cap0 ∧ (∀ i, i < z0.length → w.cell? (x.add i) = some (.int .i64 (z0.getD i 0))) ∧ ∀ n ∈ z0, (Lit.int .i64 n).wf = true) (y0 : len0 * 8 ≤ 140737488351232) (w1 : (Lit.int .i64 a1).wf = true) (w2 : (Lit.int .i64 a2).wf = true) :
    Calls Try.prog 4 #[.slice a0 len0 cap0, .int .i64 a1, .int .i64 a2] w fun e w' => e = .returned (.bool true) ∧ Below w.heap.size w w' := by
  obtain ⟨l0, rfl, hr0, hm0, hw0, hc0⟩ := ReadsInt.ofRowC w0
  obtain ⟨k, h⟩ := P l0 a1 a2 hm0 y0 hw0 w1 w2
  refine (soundservicelaw24_CostSums.calls k _ _ l0 a1 a2 true w (Kd.C_of_reads (d := (0 : Int)) (h1 := fun _ => rfl) hr0) hc0 h).mono ?_
  rintro e w' ⟨rfl, hd⟩
  exact ⟨rfl, hd⟩

/-! ### soundservicelaw24_CostGrows: function 5 -/
mutual
def soundservicelaw24_CostGrows.j0 : Nat → List Int → Int → Int → Bool → Option (Bool)
  | 0, _, _, _, _ => none
  | k + 1, x3, x4, x5, x124 => if x124 = true then (some false) else (soundservicelaw24_CostGrows.l0 k x3 x4 x5 ([] : List Int) (x3.length : Int) 0)
def soundservicelaw24_CostGrows.l0 : Nat → List Int → Int → Int → List Int → Int → Int → Option (Bool)
  | 0, _, _, _, _, _, _ => none
  | k + 1, x3, x4, x5, x27, x126, x127 => if x127 < x126 then (if 0 ≤ (wrap64 ((wrap64 ((x3.length : Int) - 1)) - x127)) then (if (wrap64 ((wrap64 ((x3.length : Int) - 1)) - x127)) < (x3.length : Int) then (if x27.length < 17592186044416 then (soundservicelaw24_CostGrows.l0 k x3 x4 x5 (x27 ++ [rd x3 (wrap64 ((wrap64 ((x3.length : Int) - 1)) - x127))]) x126 (wrap64 (x127 + 1))) else (none)) else (none)) else (none)) else ((soundservicemill_Mod.f x4 100000).bind fun t172 => ((soundservicemill_Mod.f x5 100000).bind fun t173 => ((cost_Total.f k x3).bind fun t174 => ((cost_Total.f k x27).bind fun t175 => (if t174 = t175 then ((cost_Share.f k t172 (wrap64 (1 + t173))).bind fun t176 => (some ((decide (t176 ≤ 100)) == (decide (t172 ≤ (wrap64 (1 + t173))))))) else (some false))))))
end
def soundservicelaw24_CostGrows.f (k : Nat) (a0 : Int) (a1 : Int) (a2 : Int) (l3 : List Int) (a4 : Int) (a5 : Int) : Option (Bool) := (soundservicelaw24_sane.f k).bind fun t150 => (if t150 = true then (if (l3.length : Int) > 100 then (some true) else ((soundservicemill_Mod.f a0 7).bind fun t151 => ((soundservicemill_Mod.f a1 7).bind fun t152 => ((soundservicemill_Mod.f a2 1000).bind fun t153 => ((cost_Stream.f k (wrap64 (1 + t151)) (wrap64 (1 + t152)) (wrap64 (16 + t153))).bind fun bt154 => ((cost_Stream.f k (wrap64 ((wrap64 (1 + t151)) + 1)) (wrap64 (1 + t152)) (wrap64 (16 + t153))).bind fun bt156 => ((cost_Stream.f k (wrap64 (1 + t151)) (wrap64 ((wrap64 (1 + t152)) + 1)) (wrap64 (16 + t153))).bind fun bt158 => ((cost_Stream.f k (wrap64 (1 + t151)) (wrap64 (1 + t152)) (wrap64 ((wrap64 (16 + t153)) + 1))).bind fun bt160 => ((cost_Device.f k (wrap64 (1 + t151)) (wrap64 (16 + t153))).bind fun bt162 => ((cost_Device.f k (wrap64 ((wrap64 (1 + t151)) + 1)) (wrap64 (16 + t153))).bind fun bt164 => ((cost_Device.f k (wrap64 (1 + t151)) (wrap64 ((wrap64 (16 + t153)) + 1))).bind fun bt166 => (if bt154.1 < 1 then (soundservicelaw24_CostGrows.j0 k l3 a4 a5 true) else (if bt156.1 ≤ bt154.1 then (soundservicelaw24_CostGrows.j0 k l3 a4 a5 true) else (if bt158.1 ≤ bt154.1 then (soundservicelaw24_CostGrows.j0 k l3 a4 a5 true) else (if bt160.1 ≤ bt154.1 then (soundservicelaw24_CostGrows.j0 k l3 a4 a5 true) else (if bt162.1 < 1 then (soundservicelaw24_CostGrows.j0 k l3 a4 a5 true) else (if bt164.1 ≤ bt162.1 then (soundservicelaw24_CostGrows.j0 k l3 a4 a5 true) else (soundservicelaw24_CostGrows.j0 k l3 a4 a5 (decide (bt166.1 ≤ bt162.1)))))))))))))))))))) else (some false))
theorem soundservicelaw24_CostGrows.mono_l : ∀ k, (∀ y0 y1 y2 y3, LeO (soundservicelaw24_CostGrows.j0 k y0 y1 y2 y3) (soundservicelaw24_CostGrows.j0 (k + 1) y0 y1 y2 y3)) ∧ (∀ y0 y1 y2 y3 y4 y5, LeO (soundservicelaw24_CostGrows.l0 k y0 y1 y2 y3 y4 y5) (soundservicelaw24_CostGrows.l0 (k + 1) y0 y1 y2 y3 y4 y5))
  | 0 => ⟨fun _ _ _ _ r h => by simp [soundservicelaw24_CostGrows.j0] at h, fun _ _ _ _ _ _ r h => by simp [soundservicelaw24_CostGrows.l0] at h⟩
  | k + 1 => by
    obtain ⟨ih0, ih1⟩ := soundservicelaw24_CostGrows.mono_l k
    refine ⟨?_, ?_⟩
    · intro y0 y1 y2 y3
      unfold soundservicelaw24_CostGrows.j0
      repeat' first
      | (with_reducible exact ih0 _ _ _ _)
      | (with_reducible exact ih1 _ _ _ _ _ _)
      | (with_reducible exact cost_Device.mono _ _ _)
      | (with_reducible exact cost_Share.mono _ _ _)
      | (with_reducible exact cost_Stream.mono _ _ _ _)
      | (with_reducible exact cost_Total.mono _ _)
      | (with_reducible exact soundservicelaw24_sane.mono _)
      | (with_reducible exact LeO.refl _)
      | (with_reducible exact LeO.none _)
      | (with_reducible refine LeO.ite ?_ ?_)
      | (with_reducible refine LeO.bind ?_ (fun _ => ?_))
      | exact ih0 _ _ _ _
      | exact ih1 _ _ _ _ _ _
      | exact cost_Device.mono _ _ _
      | exact cost_Share.mono _ _ _
      | exact cost_Stream.mono _ _ _ _
      | exact cost_Total.mono _ _
      | exact soundservicelaw24_sane.mono _
      | exact LeO.none _
      | refine LeO.ite ?_ ?_
      | refine LeO.bind ?_ (fun _ => ?_)
    · intro y0 y1 y2 y3 y4 y5
      unfold soundservicelaw24_CostGrows.l0
      repeat' first
      | (with_reducible exact ih0 _ _ _ _)
      | (with_reducible exact ih1 _ _ _ _ _ _)
      | (with_reducible exact cost_Device.mono _ _ _)
      | (with_reducible exact cost_Share.mono _ _ _)
      | (with_reducible exact cost_Stream.mono _ _ _ _)
      | (with_reducible exact cost_Total.mono _ _)
      | (with_reducible exact soundservicelaw24_sane.mono _)
      | (with_reducible exact LeO.refl _)
      | (with_reducible exact LeO.none _)
      | (with_reducible refine LeO.ite ?_ ?_)
      | (with_reducible refine LeO.bind ?_ (fun _ => ?_))
      | exact ih0 _ _ _ _
      | exact ih1 _ _ _ _ _ _
      | exact cost_Device.mono _ _ _
      | exact cost_Share.mono _ _ _
      | exact cost_Stream.mono _ _ _ _
      | exact cost_Total.mono _ _
      | exact soundservicelaw24_sane.mono _
      | exact LeO.none _
      | refine LeO.ite ?_ ?_
      | refine LeO.bind ?_ (fun _ => ?_)
theorem soundservicelaw24_CostGrows.mono : ∀ a0 a1 a2 a3 a4 a5 k, LeO (soundservicelaw24_CostGrows.f k a0 a1 a2 a3 a4 a5) (soundservicelaw24_CostGrows.f (k + 1) a0 a1 a2 a3 a4 a5) := by
  intro a0 a1 a2 a3 a4 a5 k
  obtain ⟨ih0, ih1⟩ := soundservicelaw24_CostGrows.mono_l k
  unfold soundservicelaw24_CostGrows.f
  repeat' first
      | (with_reducible exact ih0 _ _ _ _)
      | (with_reducible exact ih1 _ _ _ _ _ _)
      | (with_reducible exact cost_Device.mono _ _ _)
      | (with_reducible exact cost_Share.mono _ _ _)
      | (with_reducible exact cost_Stream.mono _ _ _ _)
      | (with_reducible exact cost_Total.mono _ _)
      | (with_reducible exact soundservicelaw24_sane.mono _)
      | (with_reducible exact LeO.refl _)
      | (with_reducible exact LeO.none _)
      | (with_reducible refine LeO.ite ?_ ?_)
      | (with_reducible refine LeO.bind ?_ (fun _ => ?_))
      | exact ih0 _ _ _ _
      | exact ih1 _ _ _ _ _ _
      | exact cost_Device.mono _ _ _
      | exact cost_Share.mono _ _ _
      | exact cost_Stream.mono _ _ _ _
      | exact cost_Total.mono _ _
      | exact soundservicelaw24_sane.mono _
      | exact LeO.none _
      | refine LeO.ite ?_ ?_
      | refine LeO.bind ?_ (fun _ => ?_)
set_option maxHeartbeats 8000000 in
set_option maxRecDepth 100000 in
theorem soundservicelaw24_CostGrows.calls (k : Nat) (a0 : Int) (a1 : Int) (a2 : Int) (A3 : Option Addr) (c3 : Nat) (l3 : List Int) (a4 : Int) (a5 : Int) (r : Bool) (w : World) (hr3 : Kd.C (Kd.int .i64) w A3 l3.length l3) (hc3 : l3.length ≤ c3) (h : soundservicelaw24_CostGrows.f k a0 a1 a2 l3 a4 a5 = some r) :
    Calls Try.prog 5 #[.int .i64 a0, .int .i64 a1, .int .i64 a2, .slice A3 l3.length c3, .int .i64 a4, .int .i64 a5] w fun e w' => e = .returned (.bool r) ∧ Below w.heap.size w w' := by
  have HR3 := Aside0.mk hr3
  have HC3 := Aside0.mk hc3
  clear hr3 hc3
  have HB := Aside0.mk (Below.refl w.heap.size w)
  have H : ((soundservicelaw24_sane.f k).bind fun t150 => (if t150 = true then (if (l3.length : Int) > 100 then (some true) else ((soundservicemill_Mod.f a0 7).bind fun t151 => ((soundservicemill_Mod.f a1 7).bind fun t152 => ((soundservicemill_Mod.f a2 1000).bind fun t153 => ((cost_Stream.f k (wrap64 (1 + t151)) (wrap64 (1 + t152)) (wrap64 (16 + t153))).bind fun bt154 => ((cost_Stream.f k (wrap64 ((wrap64 (1 + t151)) + 1)) (wrap64 (1 + t152)) (wrap64 (16 + t153))).bind fun bt156 => ((cost_Stream.f k (wrap64 (1 + t151)) (wrap64 ((wrap64 (1 + t152)) + 1)) (wrap64 (16 + t153))).bind fun bt158 => ((cost_Stream.f k (wrap64 (1 + t151)) (wrap64 (1 + t152)) (wrap64 ((wrap64 (16 + t153)) + 1))).bind fun bt160 => ((cost_Device.f k (wrap64 (1 + t151)) (wrap64 (16 + t153))).bind fun bt162 => ((cost_Device.f k (wrap64 ((wrap64 (1 + t151)) + 1)) (wrap64 (16 + t153))).bind fun bt164 => ((cost_Device.f k (wrap64 (1 + t151)) (wrap64 ((wrap64 (16 + t153)) + 1))).bind fun bt166 => (if bt154.1 < 1 then (soundservicelaw24_CostGrows.j0 k l3 a4 a5 true) else (if bt156.1 ≤ bt154.1 then (soundservicelaw24_CostGrows.j0 k l3 a4 a5 true) else (if bt158.1 ≤ bt154.1 then (soundservicelaw24_CostGrows.j0 k l3 a4 a5 true) else (if bt160.1 ≤ bt154.1 then (soundservicelaw24_CostGrows.j0 k l3 a4 a5 true) else (if bt162.1 < 1 then (soundservicelaw24_CostGrows.j0 k l3 a4 a5 true) else (if bt164.1 ≤ bt162.1 then (soundservicelaw24_CostGrows.j0 k l3 a4 a5 true) else (soundservicelaw24_CostGrows.j0 k l3 a4 a5 (decide (bt166.1 ≤ bt162.1)))))))))))))))))))) else (some false))) = some r := h
  clear h
  replace H := Option.bind_eq_some_iff.mp H
  obtain ⟨t150, A70, H⟩ := H
  replace H : (if t150 = true then (if (l3.length : Int) > 100 then (some true) else ((soundservicemill_Mod.f a0 7).bind fun t151 => ((soundservicemill_Mod.f a1 7).bind fun t152 => ((soundservicemill_Mod.f a2 1000).bind fun t153 => ((cost_Stream.f k (wrap64 (1 + t151)) (wrap64 (1 + t152)) (wrap64 (16 + t153))).bind fun bt154 => ((cost_Stream.f k (wrap64 ((wrap64 (1 + t151)) + 1)) (wrap64 (1 + t152)) (wrap64 (16 + t153))).bind fun bt156 => ((cost_Stream.f k (wrap64 (1 + t151)) (wrap64 ((wrap64 (1 + t152)) + 1)) (wrap64 (16 + t153))).bind fun bt158 => ((cost_Stream.f k (wrap64 (1 + t151)) (wrap64 (1 + t152)) (wrap64 ((wrap64 (16 + t153)) + 1))).bind fun bt160 => ((cost_Device.f k (wrap64 (1 + t151)) (wrap64 (16 + t153))).bind fun bt162 => ((cost_Device.f k (wrap64 ((wrap64 (1 + t151)) + 1)) (wrap64 (16 + t153))).bind fun bt164 => ((cost_Device.f k (wrap64 (1 + t151)) (wrap64 ((wrap64 (16 + t153)) + 1))).bind fun bt166 => (if bt154.1 < 1 then (soundservicelaw24_CostGrows.j0 k l3 a4 a5 true) else (if bt156.1 ≤ bt154.1 then (soundservicelaw24_CostGrows.j0 k l3 a4 a5 true) else (if bt158.1 ≤ bt154.1 then (soundservicelaw24_CostGrows.j0 k l3 a4 a5 true) else (if bt160.1 ≤ bt154.1 then (soundservicelaw24_CostGrows.j0 k l3 a4 a5 true) else (if bt162.1 < 1 then (soundservicelaw24_CostGrows.j0 k l3 a4 a5 true) else (if bt164.1 ≤ bt162.1 then (soundservicelaw24_CostGrows.j0 k l3 a4 a5 true) else (soundservicelaw24_CostGrows.j0 k l3 a4 a5 (decide (bt166.1 ≤ bt162.1)))))))))))))))))))) else (some false)) = some r := H
  have A7 := Aside0.mk A70
  clear A70
  by_cases c8 : t150 = true
  · subst c8
    have H1 : (if (l3.length : Int) > 100 then (some true) else ((soundservicemill_Mod.f a0 7).bind fun t151 => ((soundservicemill_Mod.f a1 7).bind fun t152 => ((soundservicemill_Mod.f a2 1000).bind fun t153 => ((cost_Stream.f k (wrap64 (1 + t151)) (wrap64 (1 + t152)) (wrap64 (16 + t153))).bind fun bt154 => ((cost_Stream.f k (wrap64 ((wrap64 (1 + t151)) + 1)) (wrap64 (1 + t152)) (wrap64 (16 + t153))).bind fun bt156 => ((cost_Stream.f k (wrap64 (1 + t151)) (wrap64 ((wrap64 (1 + t152)) + 1)) (wrap64 (16 + t153))).bind fun bt158 => ((cost_Stream.f k (wrap64 (1 + t151)) (wrap64 (1 + t152)) (wrap64 ((wrap64 (16 + t153)) + 1))).bind fun bt160 => ((cost_Device.f k (wrap64 (1 + t151)) (wrap64 (16 + t153))).bind fun bt162 => ((cost_Device.f k (wrap64 ((wrap64 (1 + t151)) + 1)) (wrap64 (16 + t153))).bind fun bt164 => ((cost_Device.f k (wrap64 (1 + t151)) (wrap64 ((wrap64 (16 + t153)) + 1))).bind fun bt166 => (if bt154.1 < 1 then (soundservicelaw24_CostGrows.j0 k l3 a4 a5 true) else (if bt156.1 ≤ bt154.1 then (soundservicelaw24_CostGrows.j0 k l3 a4 a5 true) else (if bt158.1 ≤ bt154.1 then (soundservicelaw24_CostGrows.j0 k l3 a4 a5 true) else (if bt160.1 ≤ bt154.1 then (soundservicelaw24_CostGrows.j0 k l3 a4 a5 true) else (if bt162.1 < 1 then (soundservicelaw24_CostGrows.j0 k l3 a4 a5 true) else (if bt164.1 ≤ bt162.1 then (soundservicelaw24_CostGrows.j0 k l3 a4 a5 true) else (soundservicelaw24_CostGrows.j0 k l3 a4 a5 (decide (bt166.1 ≤ bt162.1)))))))))))))))))))) = some r := by rw [if_pos rfl] at H; exact H
    clear H
    have H := H1
    clear H1
    by_cases c9 : (l3.length : Int) > 100
    · rw [if_pos c9] at H
      have c9b0 : decide (100 < (l3.length : Int)) = true := decide_eq_true c9
      have c9b1 : decide (100 < l3.length) = true := decide_eq_true (by omega)
      clear c9
      obtain rfl := Option.some.inj H
      go_enter Try.func5, Try.ntmps5
      go_wp2_with (first | ((with_reducible refine gate_callee (f := 10) rfl ?_); refine goesL_ (some 29) rfl rfl Try.func10 (by kernel_rfl) rfl #[] rfl (by (try simp only [List.map_toArray, List.map_cons, List.map_nil]); first | done | rfl | (simp only [List.length_drop, List.length_take]; rfl)) ?_; (with_reducible refine (soundservicelaw24_sane.calls k  true _ A7.out).mono ?_); rintro e w10 ⟨rfl, hb⟩; refine ⟨_, rfl, ?_⟩; have n0_ := Aside0.mk (below_step (by repeat (first | (with_reducible first | exact HB.out | apply below_alloc | apply pw_below_drewN | apply below_drew1) | exact HB.out)) hb); clear HB; have HB := n0_; clear n0_; (try clear hb); (try clear hb2); (try clear hk); (try clear hi)))
      go_ret
      exact ⟨by first | rfl | (simp [errW_none, errW_some] <;> rfl) | (simp [*, errW_none, errW_some] <;> rfl), by repeat (first | (with_reducible first | exact HB.out | apply below_alloc | apply pw_below_drewN | apply below_drew1) | exact HB.out)⟩
    · rw [if_neg c9] at H
      have c9b0 : decide (100 < (l3.length : Int)) = false := decide_eq_false c9
      have c9b1 : decide (100 < l3.length) = false := decide_eq_false (by omega)
      clear c9
      replace H := Option.bind_eq_some_iff.mp H
      obtain ⟨t151, A110, H⟩ := H
      replace H : ((soundservicemill_Mod.f a1 7).bind fun t152 => ((soundservicemill_Mod.f a2 1000).bind fun t153 => ((cost_Stream.f k (wrap64 (1 + t151)) (wrap64 (1 + t152)) (wrap64 (16 + t153))).bind fun bt154 => ((cost_Stream.f k (wrap64 ((wrap64 (1 + t151)) + 1)) (wrap64 (1 + t152)) (wrap64 (16 + t153))).bind fun bt156 => ((cost_Stream.f k (wrap64 (1 + t151)) (wrap64 ((wrap64 (1 + t152)) + 1)) (wrap64 (16 + t153))).bind fun bt158 => ((cost_Stream.f k (wrap64 (1 + t151)) (wrap64 (1 + t152)) (wrap64 ((wrap64 (16 + t153)) + 1))).bind fun bt160 => ((cost_Device.f k (wrap64 (1 + t151)) (wrap64 (16 + t153))).bind fun bt162 => ((cost_Device.f k (wrap64 ((wrap64 (1 + t151)) + 1)) (wrap64 (16 + t153))).bind fun bt164 => ((cost_Device.f k (wrap64 (1 + t151)) (wrap64 ((wrap64 (16 + t153)) + 1))).bind fun bt166 => (if bt154.1 < 1 then (soundservicelaw24_CostGrows.j0 k l3 a4 a5 true) else (if bt156.1 ≤ bt154.1 then (soundservicelaw24_CostGrows.j0 k l3 a4 a5 true) else (if bt158.1 ≤ bt154.1 then (soundservicelaw24_CostGrows.j0 k l3 a4 a5 true) else (if bt160.1 ≤ bt154.1 then (soundservicelaw24_CostGrows.j0 k l3 a4 a5 true) else (if bt162.1 < 1 then (soundservicelaw24_CostGrows.j0 k l3 a4 a5 true) else (if bt164.1 ≤ bt162.1 then (soundservicelaw24_CostGrows.j0 k l3 a4 a5 true) else (soundservicelaw24_CostGrows.j0 k l3 a4 a5 (decide (bt166.1 ≤ bt162.1)))))))))))))))))) = some r := H
      have A11 := Aside0.mk A110
      clear A110
      replace H := Option.bind_eq_some_iff.mp H
      obtain ⟨t152, A120, H⟩ := H
      replace H : ((soundservicemill_Mod.f a2 1000).bind fun t153 => ((cost_Stream.f k (wrap64 (1 + t151)) (wrap64 (1 + t152)) (wrap64 (16 + t153))).bind fun bt154 => ((cost_Stream.f k (wrap64 ((wrap64 (1 + t151)) + 1)) (wrap64 (1 + t152)) (wrap64 (16 + t153))).bind fun bt156 => ((cost_Stream.f k (wrap64 (1 + t151)) (wrap64 ((wrap64 (1 + t152)) + 1)) (wrap64 (16 + t153))).bind fun bt158 => ((cost_Stream.f k (wrap64 (1 + t151)) (wrap64 (1 + t152)) (wrap64 ((wrap64 (16 + t153)) + 1))).bind fun bt160 => ((cost_Device.f k (wrap64 (1 + t151)) (wrap64 (16 + t153))).bind fun bt162 => ((cost_Device.f k (wrap64 ((wrap64 (1 + t151)) + 1)) (wrap64 (16 + t153))).bind fun bt164 => ((cost_Device.f k (wrap64 (1 + t151)) (wrap64 ((wrap64 (16 + t153)) + 1))).bind fun bt166 => (if bt154.1 < 1 then (soundservicelaw24_CostGrows.j0 k l3 a4 a5 true) else (if bt156.1 ≤ bt154.1 then (soundservicelaw24_CostGrows.j0 k l3 a4 a5 true) else (if bt158.1 ≤ bt154.1 then (soundservicelaw24_CostGrows.j0 k l3 a4 a5 true) else (if bt160.1 ≤ bt154.1 then (soundservicelaw24_CostGrows.j0 k l3 a4 a5 true) else (if bt162.1 < 1 then (soundservicelaw24_CostGrows.j0 k l3 a4 a5 true) else (if bt164.1 ≤ bt162.1 then (soundservicelaw24_CostGrows.j0 k l3 a4 a5 true) else (soundservicelaw24_CostGrows.j0 k l3 a4 a5 (decide (bt166.1 ≤ bt162.1))))))))))))))))) = some r := H
      have A12 := Aside0.mk A120
      clear A120
      replace H := Option.bind_eq_some_iff.mp H
      obtain ⟨t153, A130, H⟩ := H
      replace H : ((cost_Stream.f k (wrap64 (1 + t151)) (wrap64 (1 + t152)) (wrap64 (16 + t153))).bind fun bt154 => ((cost_Stream.f k (wrap64 ((wrap64 (1 + t151)) + 1)) (wrap64 (1 + t152)) (wrap64 (16 + t153))).bind fun bt156 => ((cost_Stream.f k (wrap64 (1 + t151)) (wrap64 ((wrap64 (1 + t152)) + 1)) (wrap64 (16 + t153))).bind fun bt158 => ((cost_Stream.f k (wrap64 (1 + t151)) (wrap64 (1 + t152)) (wrap64 ((wrap64 (16 + t153)) + 1))).bind fun bt160 => ((cost_Device.f k (wrap64 (1 + t151)) (wrap64 (16 + t153))).bind fun bt162 => ((cost_Device.f k (wrap64 ((wrap64 (1 + t151)) + 1)) (wrap64 (16 + t153))).bind fun bt164 => ((cost_Device.f k (wrap64 (1 + t151)) (wrap64 ((wrap64 (16 + t153)) + 1))).bind fun bt166 => (if bt154.1 < 1 then (soundservicelaw24_CostGrows.j0 k l3 a4 a5 true) else (if bt156.1 ≤ bt154.1 then (soundservicelaw24_CostGrows.j0 k l3 a4 a5 true) else (if bt158.1 ≤ bt154.1 then (soundservicelaw24_CostGrows.j0 k l3 a4 a5 true) else (if bt160.1 ≤ bt154.1 then (soundservicelaw24_CostGrows.j0 k l3 a4 a5 true) else (if bt162.1 < 1 then (soundservicelaw24_CostGrows.j0 k l3 a4 a5 true) else (if bt164.1 ≤ bt162.1 then (soundservicelaw24_CostGrows.j0 k l3 a4 a5 true) else (soundservicelaw24_CostGrows.j0 k l3 a4 a5 (decide (bt166.1 ≤ bt162.1)))))))))))))))) = some r := H
      have A13 := Aside0.mk A130
      clear A130
      replace H := Option.bind_eq_some_iff.mp H
      obtain ⟨⟨t154, t155⟩, A140, H⟩ := H
      replace H : ((cost_Stream.f k (wrap64 ((wrap64 (1 + t151)) + 1)) (wrap64 (1 + t152)) (wrap64 (16 + t153))).bind fun bt156 => ((cost_Stream.f k (wrap64 (1 + t151)) (wrap64 ((wrap64 (1 + t152)) + 1)) (wrap64 (16 + t153))).bind fun bt158 => ((cost_Stream.f k (wrap64 (1 + t151)) (wrap64 (1 + t152)) (wrap64 ((wrap64 (16 + t153)) + 1))).bind fun bt160 => ((cost_Device.f k (wrap64 (1 + t151)) (wrap64 (16 + t153))).bind fun bt162 => ((cost_Device.f k (wrap64 ((wrap64 (1 + t151)) + 1)) (wrap64 (16 + t153))).bind fun bt164 => ((cost_Device.f k (wrap64 (1 + t151)) (wrap64 ((wrap64 (16 + t153)) + 1))).bind fun bt166 => (if t154 < 1 then (soundservicelaw24_CostGrows.j0 k l3 a4 a5 true) else (if bt156.1 ≤ t154 then (soundservicelaw24_CostGrows.j0 k l3 a4 a5 true) else (if bt158.1 ≤ t154 then (soundservicelaw24_CostGrows.j0 k l3 a4 a5 true) else (if bt160.1 ≤ t154 then (soundservicelaw24_CostGrows.j0 k l3 a4 a5 true) else (if bt162.1 < 1 then (soundservicelaw24_CostGrows.j0 k l3 a4 a5 true) else (if bt164.1 ≤ bt162.1 then (soundservicelaw24_CostGrows.j0 k l3 a4 a5 true) else (soundservicelaw24_CostGrows.j0 k l3 a4 a5 (decide (bt166.1 ≤ bt162.1))))))))))))))) = some r := H
      have A14 := Aside0.mk A140
      clear A140
      replace H := Option.bind_eq_some_iff.mp H
      obtain ⟨⟨t156, t157⟩, A150, H⟩ := H
      replace H : ((cost_Stream.f k (wrap64 (1 + t151)) (wrap64 ((wrap64 (1 + t152)) + 1)) (wrap64 (16 + t153))).bind fun bt158 => ((cost_Stream.f k (wrap64 (1 + t151)) (wrap64 (1 + t152)) (wrap64 ((wrap64 (16 + t153)) + 1))).bind fun bt160 => ((cost_Device.f k (wrap64 (1 + t151)) (wrap64 (16 + t153))).bind fun bt162 => ((cost_Device.f k (wrap64 ((wrap64 (1 + t151)) + 1)) (wrap64 (16 + t153))).bind fun bt164 => ((cost_Device.f k (wrap64 (1 + t151)) (wrap64 ((wrap64 (16 + t153)) + 1))).bind fun bt166 => (if t154 < 1 then (soundservicelaw24_CostGrows.j0 k l3 a4 a5 true) else (if t156 ≤ t154 then (soundservicelaw24_CostGrows.j0 k l3 a4 a5 true) else (if bt158.1 ≤ t154 then (soundservicelaw24_CostGrows.j0 k l3 a4 a5 true) else (if bt160.1 ≤ t154 then (soundservicelaw24_CostGrows.j0 k l3 a4 a5 true) else (if bt162.1 < 1 then (soundservicelaw24_CostGrows.j0 k l3 a4 a5 true) else (if bt164.1 ≤ bt162.1 then (soundservicelaw24_CostGrows.j0 k l3 a4 a5 true) else (soundservicelaw24_CostGrows.j0 k l3 a4 a5 (decide (bt166.1 ≤ bt162.1)))))))))))))) = some r := H
      have A15 := Aside0.mk A150
      clear A150
      replace H := Option.bind_eq_some_iff.mp H
      obtain ⟨⟨t158, t159⟩, A160, H⟩ := H
      replace H : ((cost_Stream.f k (wrap64 (1 + t151)) (wrap64 (1 + t152)) (wrap64 ((wrap64 (16 + t153)) + 1))).bind fun bt160 => ((cost_Device.f k (wrap64 (1 + t151)) (wrap64 (16 + t153))).bind fun bt162 => ((cost_Device.f k (wrap64 ((wrap64 (1 + t151)) + 1)) (wrap64 (16 + t153))).bind fun bt164 => ((cost_Device.f k (wrap64 (1 + t151)) (wrap64 ((wrap64 (16 + t153)) + 1))).bind fun bt166 => (if t154 < 1 then (soundservicelaw24_CostGrows.j0 k l3 a4 a5 true) else (if t156 ≤ t154 then (soundservicelaw24_CostGrows.j0 k l3 a4 a5 true) else (if t158 ≤ t154 then (soundservicelaw24_CostGrows.j0 k l3 a4 a5 true) else (if bt160.1 ≤ t154 then (soundservicelaw24_CostGrows.j0 k l3 a4 a5 true) else (if bt162.1 < 1 then (soundservicelaw24_CostGrows.j0 k l3 a4 a5 true) else (if bt164.1 ≤ bt162.1 then (soundservicelaw24_CostGrows.j0 k l3 a4 a5 true) else (soundservicelaw24_CostGrows.j0 k l3 a4 a5 (decide (bt166.1 ≤ bt162.1))))))))))))) = some r := H
      have A16 := Aside0.mk A160
      clear A160
      replace H := Option.bind_eq_some_iff.mp H
      obtain ⟨⟨t160, t161⟩, A170, H⟩ := H
      replace H : ((cost_Device.f k (wrap64 (1 + t151)) (wrap64 (16 + t153))).bind fun bt162 => ((cost_Device.f k (wrap64 ((wrap64 (1 + t151)) + 1)) (wrap64 (16 + t153))).bind fun bt164 => ((cost_Device.f k (wrap64 (1 + t151)) (wrap64 ((wrap64 (16 + t153)) + 1))).bind fun bt166 => (if t154 < 1 then (soundservicelaw24_CostGrows.j0 k l3 a4 a5 true) else (if t156 ≤ t154 then (soundservicelaw24_CostGrows.j0 k l3 a4 a5 true) else (if t158 ≤ t154 then (soundservicelaw24_CostGrows.j0 k l3 a4 a5 true) else (if t160 ≤ t154 then (soundservicelaw24_CostGrows.j0 k l3 a4 a5 true) else (if bt162.1 < 1 then (soundservicelaw24_CostGrows.j0 k l3 a4 a5 true) else (if bt164.1 ≤ bt162.1 then (soundservicelaw24_CostGrows.j0 k l3 a4 a5 true) else (soundservicelaw24_CostGrows.j0 k l3 a4 a5 (decide (bt166.1 ≤ bt162.1)))))))))))) = some r := H
      have A17 := Aside0.mk A170
      clear A170
      replace H := Option.bind_eq_some_iff.mp H
      obtain ⟨⟨t162, t163⟩, A180, H⟩ := H
      replace H : ((cost_Device.f k (wrap64 ((wrap64 (1 + t151)) + 1)) (wrap64 (16 + t153))).bind fun bt164 => ((cost_Device.f k (wrap64 (1 + t151)) (wrap64 ((wrap64 (16 + t153)) + 1))).bind fun bt166 => (if t154 < 1 then (soundservicelaw24_CostGrows.j0 k l3 a4 a5 true) else (if t156 ≤ t154 then (soundservicelaw24_CostGrows.j0 k l3 a4 a5 true) else (if t158 ≤ t154 then (soundservicelaw24_CostGrows.j0 k l3 a4 a5 true) else (if t160 ≤ t154 then (soundservicelaw24_CostGrows.j0 k l3 a4 a5 true) else (if t162 < 1 then (soundservicelaw24_CostGrows.j0 k l3 a4 a5 true) else (if bt164.1 ≤ t162 then (soundservicelaw24_CostGrows.j0 k l3 a4 a5 true) else (soundservicelaw24_CostGrows.j0 k l3 a4 a5 (decide (bt166.1 ≤ t162))))))))))) = some r := H
      have A18 := Aside0.mk A180
      clear A180
      replace H := Option.bind_eq_some_iff.mp H
      obtain ⟨⟨t164, t165⟩, A190, H⟩ := H
      replace H : ((cost_Device.f k (wrap64 (1 + t151)) (wrap64 ((wrap64 (16 + t153)) + 1))).bind fun bt166 => (if t154 < 1 then (soundservicelaw24_CostGrows.j0 k l3 a4 a5 true) else (if t156 ≤ t154 then (soundservicelaw24_CostGrows.j0 k l3 a4 a5 true) else (if t158 ≤ t154 then (soundservicelaw24_CostGrows.j0 k l3 a4 a5 true) else (if t160 ≤ t154 then (soundservicelaw24_CostGrows.j0 k l3 a4 a5 true) else (if t162 < 1 then (soundservicelaw24_CostGrows.j0 k l3 a4 a5 true) else (if t164 ≤ t162 then (soundservicelaw24_CostGrows.j0 k l3 a4 a5 true) else (soundservicelaw24_CostGrows.j0 k l3 a4 a5 (decide (bt166.1 ≤ t162)))))))))) = some r := H
      have A19 := Aside0.mk A190
      clear A190
      replace H := Option.bind_eq_some_iff.mp H
      obtain ⟨⟨t166, t167⟩, A200, H⟩ := H
      replace H : (if t154 < 1 then (soundservicelaw24_CostGrows.j0 k l3 a4 a5 true) else (if t156 ≤ t154 then (soundservicelaw24_CostGrows.j0 k l3 a4 a5 true) else (if t158 ≤ t154 then (soundservicelaw24_CostGrows.j0 k l3 a4 a5 true) else (if t160 ≤ t154 then (soundservicelaw24_CostGrows.j0 k l3 a4 a5 true) else (if t162 < 1 then (soundservicelaw24_CostGrows.j0 k l3 a4 a5 true) else (if t164 ≤ t162 then (soundservicelaw24_CostGrows.j0 k l3 a4 a5 true) else (soundservicelaw24_CostGrows.j0 k l3 a4 a5 (decide (t166 ≤ t162))))))))) = some r := H
      have A20 := Aside0.mk A200
      clear A200
      have HC21 := Aside0.mk H
      clear H
      go_enter Try.func5, Try.ntmps5
      go_upto_region 13 with (first | ((with_reducible refine gate_callee (f := 10) rfl ?_); refine goesL_ (some 29) rfl rfl Try.func10 (by kernel_rfl) rfl #[] rfl (by (try simp only [List.map_toArray, List.map_cons, List.map_nil]); first | done | rfl | (simp only [List.length_drop, List.length_take]; rfl)) ?_; (with_reducible refine (soundservicelaw24_sane.calls k  true _ A7.out).mono ?_); rintro e w22 ⟨rfl, hb⟩; refine ⟨_, rfl, ?_⟩; have n0_ := Aside0.mk (below_step (by repeat (first | (with_reducible first | exact HB.out | apply below_alloc | apply pw_below_drewN | apply below_drew1) | exact HB.out)) hb); clear HB; have HB := n0_; clear n0_; (try clear hb); (try clear hb2); (try clear hk); (try clear hi)) | ((with_reducible refine gate_callee (f := 11) rfl ?_); refine goesL_ (some 35) rfl rfl Try.func11 (by kernel_rfl) rfl #[.int .i64 a0, .int .i64 7] rfl (by (try simp only [List.map_toArray, List.map_cons, List.map_nil]); first | done | rfl | (simp only [List.length_drop, List.length_take]; rfl)) ?_; (with_reducible refine (soundservicemill_Mod.calls a0 7 t151 _ A11.out).mono ?_); rintro e w' ⟨rfl, ⟨nd, rfl⟩⟩; refine ⟨_, rfl, ?_⟩) | ((with_reducible refine gate_callee (f := 11) rfl ?_); refine goesL_ (some 38) rfl rfl Try.func11 (by kernel_rfl) rfl #[.int .i64 a1, .int .i64 7] rfl (by (try simp only [List.map_toArray, List.map_cons, List.map_nil]); first | done | rfl | (simp only [List.length_drop, List.length_take]; rfl)) ?_; (with_reducible refine (soundservicemill_Mod.calls a1 7 t152 _ A12.out).mono ?_); rintro e w' ⟨rfl, ⟨nd, rfl⟩⟩; refine ⟨_, rfl, ?_⟩) | ((with_reducible refine gate_callee (f := 11) rfl ?_); refine goesL_ (some 41) rfl rfl Try.func11 (by kernel_rfl) rfl #[.int .i64 a2, .int .i64 1000] rfl (by (try simp only [List.map_toArray, List.map_cons, List.map_nil]); first | done | rfl | (simp only [List.length_drop, List.length_take]; rfl)) ?_; (with_reducible refine (soundservicemill_Mod.calls a2 1000 t153 _ A13.out).mono ?_); rintro e w' ⟨rfl, ⟨nd, rfl⟩⟩; refine ⟨_, rfl, ?_⟩) | ((with_reducible refine gate_callee (f := 12) rfl ?_); refine goesL_ (some 47) rfl rfl Try.func12 (by kernel_rfl) rfl #[.int .i64 (wrap64 (1 + t151)), .int .i64 (wrap64 (1 + t152)), .int .i64 (wrap64 (16 + t153))] rfl (by (try simp only [List.map_toArray, List.map_cons, List.map_nil]); first | done | rfl | (simp only [List.length_drop, List.length_take]; rfl)) ?_; (with_reducible refine (cost_Stream.calls k (wrap64 (1 + t151)) (wrap64 (1 + t152)) (wrap64 (16 + t153)) t154 t155 _ A14.out).mono ?_); rintro e w23 ⟨rfl, hb⟩; refine ⟨_, rfl, ?_⟩; have n0_ := Aside0.mk (below_step (by repeat (first | (with_reducible first | exact HB.out | apply below_alloc | apply pw_below_drewN | apply below_drew1) | exact HB.out)) hb); clear HB; have HB := n0_; clear n0_; (try clear hb); (try clear hb2); (try clear hk); (try clear hi)) | ((with_reducible refine gate_callee (f := 12) rfl ?_); refine goesL_ (some 55) rfl rfl Try.func12 (by kernel_rfl) rfl #[.int .i64 (wrap64 ((wrap64 (1 + t151)) + 1)), .int .i64 (wrap64 (1 + t152)), .int .i64 (wrap64 (16 + t153))] rfl (by (try simp only [List.map_toArray, List.map_cons, List.map_nil]); first | done | rfl | (simp only [List.length_drop, List.length_take]; rfl)) ?_; (with_reducible refine (cost_Stream.calls k (wrap64 ((wrap64 (1 + t151)) + 1)) (wrap64 (1 + t152)) (wrap64 (16 + t153)) t156 t157 _ A15.out).mono ?_); rintro e w24 ⟨rfl, hb⟩; refine ⟨_, rfl, ?_⟩; have n0_ := Aside0.mk (below_step (by repeat (first | (with_reducible first | exact HB.out | apply below_alloc | apply pw_below_drewN | apply below_drew1) | exact HB.out)) hb); clear HB; have HB := n0_; clear n0_; (try clear hb); (try clear hb2); (try clear hk); (try clear hi)) | ((with_reducible refine gate_callee (f := 12) rfl ?_); refine goesL_ (some 63) rfl rfl Try.func12 (by kernel_rfl) rfl #[.int .i64 (wrap64 (1 + t151)), .int .i64 (wrap64 ((wrap64 (1 + t152)) + 1)), .int .i64 (wrap64 (16 + t153))] rfl (by (try simp only [List.map_toArray, List.map_cons, List.map_nil]); first | done | rfl | (simp only [List.length_drop, List.length_take]; rfl)) ?_; (with_reducible refine (cost_Stream.calls k (wrap64 (1 + t151)) (wrap64 ((wrap64 (1 + t152)) + 1)) (wrap64 (16 + t153)) t158 t159 _ A16.out).mono ?_); rintro e w25 ⟨rfl, hb⟩; refine ⟨_, rfl, ?_⟩; have n0_ := Aside0.mk (below_step (by repeat (first | (with_reducible first | exact HB.out | apply below_alloc | apply pw_below_drewN | apply below_drew1) | exact HB.out)) hb); clear HB; have HB := n0_; clear n0_; (try clear hb); (try clear hb2); (try clear hk); (try clear hi)) | ((with_reducible refine gate_callee (f := 12) rfl ?_); refine goesL_ (some 71) rfl rfl Try.func12 (by kernel_rfl) rfl #[.int .i64 (wrap64 (1 + t151)), .int .i64 (wrap64 (1 + t152)), .int .i64 (wrap64 ((wrap64 (16 + t153)) + 1))] rfl (by (try simp only [List.map_toArray, List.map_cons, List.map_nil]); first | done | rfl | (simp only [List.length_drop, List.length_take]; rfl)) ?_; (with_reducible refine (cost_Stream.calls k (wrap64 (1 + t151)) (wrap64 (1 + t152)) (wrap64 ((wrap64 (16 + t153)) + 1)) t160 t161 _ A17.out).mono ?_); rintro e w26 ⟨rfl, hb⟩; refine ⟨_, rfl, ?_⟩; have n0_ := Aside0.mk (below_step (by repeat (first | (with_reducible first | exact HB.out | apply below_alloc | apply pw_below_drewN | apply below_drew1) | exact HB.out)) hb); clear HB; have HB := n0_; clear n0_; (try clear hb); (try clear hb2); (try clear hk); (try clear hi)) | ((with_reducible refine gate_callee (f := 14) rfl ?_); refine goesL_ (some 77) rfl rfl Try.func14 (by kernel_rfl) rfl #[.int .i64 (wrap64 (1 + t151)), .int .i64 (wrap64 (16 + t153))] rfl (by (try simp only [List.map_toArray, List.map_cons, List.map_nil]); first | done | rfl | (simp only [List.length_drop, List.length_take]; rfl)) ?_; (with_reducible refine (cost_Device.calls k (wrap64 (1 + t151)) (wrap64 (16 + t153)) t162 t163 _ A18.out).mono ?_); rintro e w27 ⟨rfl, hb⟩; refine ⟨_, rfl, ?_⟩; have n0_ := Aside0.mk (below_step (by repeat (first | (with_reducible first | exact HB.out | apply below_alloc | apply pw_below_drewN | apply below_drew1) | exact HB.out)) hb); clear HB; have HB := n0_; clear n0_; (try clear hb); (try clear hb2); (try clear hk); (try clear hi)) | ((with_reducible refine gate_callee (f := 14) rfl ?_); refine goesL_ (some 84) rfl rfl Try.func14 (by kernel_rfl) rfl #[.int .i64 (wrap64 ((wrap64 (1 + t151)) + 1)), .int .i64 (wrap64 (16 + t153))] rfl (by (try simp only [List.map_toArray, List.map_cons, List.map_nil]); first | done | rfl | (simp only [List.length_drop, List.length_take]; rfl)) ?_; (with_reducible refine (cost_Device.calls k (wrap64 ((wrap64 (1 + t151)) + 1)) (wrap64 (16 + t153)) t164 t165 _ A19.out).mono ?_); rintro e w28 ⟨rfl, hb⟩; refine ⟨_, rfl, ?_⟩; have n0_ := Aside0.mk (below_step (by repeat (first | (with_reducible first | exact HB.out | apply below_alloc | apply pw_below_drewN | apply below_drew1) | exact HB.out)) hb); clear HB; have HB := n0_; clear n0_; (try clear hb); (try clear hb2); (try clear hk); (try clear hi)) | ((with_reducible refine gate_callee (f := 14) rfl ?_); refine goesL_ (some 91) rfl rfl Try.func14 (by kernel_rfl) rfl #[.int .i64 (wrap64 (1 + t151)), .int .i64 (wrap64 ((wrap64 (16 + t153)) + 1))] rfl (by (try simp only [List.map_toArray, List.map_cons, List.map_nil]); first | done | rfl | (simp only [List.length_drop, List.length_take]; rfl)) ?_; (with_reducible refine (cost_Device.calls k (wrap64 (1 + t151)) (wrap64 ((wrap64 (16 + t153)) + 1)) t166 t167 _ A20.out).mono ?_); rintro e w29 ⟨rfl, hb⟩; refine ⟨_, rfl, ?_⟩; have n0_ := Aside0.mk (below_step (by repeat (first | (with_reducible first | exact HB.out | apply below_alloc | apply pw_below_drewN | apply below_drew1) | exact HB.out)) hb); clear HB; have HB := n0_; clear n0_; (try clear hb); (try clear hb2); (try clear hk); (try clear hi)))
      (try simp only [Act.put, List.setIfInBounds_toArray, List.set_cons_zero, List.set_cons_succ])
      go_cut [124] (fun v124 wc => ∃ (kq : Nat) (x124_20 : Bool), v124 = .bool x124_20 ∧ Aside0 (soundservicelaw24_CostGrows.j0 kq l3 a4 a5 x124_20 = some r) ∧ Aside0 (kq ≤ k) ∧ Aside0 (Below w.heap.size w wc))
      case first =>
        have H := HC21.out
        clear HC21
        by_cases c30 : t154 < 1
        · rw [if_pos c30] at H
          have c30b0 : decide (t154 < 1) = true := decide_eq_true c30
          clear c30
          (first | rw [c30b0] | (simp only [i64_w, i32_w]; rw [c30b0]) | skip)
          have H' := Aside0.mk H
          clear H
          go_wp2
          go_meet
          case rel => exact ⟨_, (true), (by first | rfl | (simp; done) | (simp [*]; done)), H', ⟨by first | omega | exact Nat.le_refl _⟩, ⟨by repeat (first | (with_reducible first | exact HB.out | apply below_alloc | apply pw_below_drewN | apply below_drew1) | exact HB.out)⟩⟩
        · rw [if_neg c30] at H
          have c30b0 : decide (t154 < 1) = false := decide_eq_false c30
          clear c30
          (first | rw [c30b0] | (simp only [i64_w, i32_w]; rw [c30b0]) | skip)
          by_cases c31 : t156 ≤ t154
          · rw [if_pos c31] at H
            have c31b0 : decide (t156 ≤ t154) = true := decide_eq_true c31
            clear c31
            have H' := Aside0.mk H
            clear H
            go_wp2
            go_meet
            case rel => exact ⟨_, (true), (by first | rfl | (simp; done) | (simp [*]; done)), H', ⟨by first | omega | exact Nat.le_refl _⟩, ⟨by repeat (first | (with_reducible first | exact HB.out | apply below_alloc | apply pw_below_drewN | apply below_drew1) | exact HB.out)⟩⟩
          · rw [if_neg c31] at H
            have c31b0 : decide (t156 ≤ t154) = false := decide_eq_false c31
            clear c31
            by_cases c32 : t158 ≤ t154
            · rw [if_pos c32] at H
              have c32b0 : decide (t158 ≤ t154) = true := decide_eq_true c32
              clear c32
              have H' := Aside0.mk H
              clear H
              go_wp2
              go_meet
              case rel => exact ⟨_, (true), (by first | rfl | (simp; done) | (simp [*]; done)), H', ⟨by first | omega | exact Nat.le_refl _⟩, ⟨by repeat (first | (with_reducible first | exact HB.out | apply below_alloc | apply pw_below_drewN | apply below_drew1) | exact HB.out)⟩⟩
            · rw [if_neg c32] at H
              have c32b0 : decide (t158 ≤ t154) = false := decide_eq_false c32
              clear c32
              by_cases c33 : t160 ≤ t154
              · rw [if_pos c33] at H
                have c33b0 : decide (t160 ≤ t154) = true := decide_eq_true c33
                clear c33
                have H' := Aside0.mk H
                clear H
                go_wp2
                go_meet
                case rel => exact ⟨_, (true), (by first | rfl | (simp; done) | (simp [*]; done)), H', ⟨by first | omega | exact Nat.le_refl _⟩, ⟨by repeat (first | (with_reducible first | exact HB.out | apply below_alloc | apply pw_below_drewN | apply below_drew1) | exact HB.out)⟩⟩
              · rw [if_neg c33] at H
                have c33b0 : decide (t160 ≤ t154) = false := decide_eq_false c33
                clear c33
                by_cases c34 : t162 < 1
                · rw [if_pos c34] at H
                  have c34b0 : decide (t162 < 1) = true := decide_eq_true c34
                  clear c34
                  have H' := Aside0.mk H
                  clear H
                  go_wp2
                  go_meet
                  case rel => exact ⟨_, (true), (by first | rfl | (simp; done) | (simp [*]; done)), H', ⟨by first | omega | exact Nat.le_refl _⟩, ⟨by repeat (first | (with_reducible first | exact HB.out | apply below_alloc | apply pw_below_drewN | apply below_drew1) | exact HB.out)⟩⟩
                · rw [if_neg c34] at H
                  have c34b0 : decide (t162 < 1) = false := decide_eq_false c34
                  clear c34
                  by_cases c35 : t164 ≤ t162
                  · rw [if_pos c35] at H
                    have c35b0 : decide (t164 ≤ t162) = true := decide_eq_true c35
                    clear c35
                    have H' := Aside0.mk H
                    clear H
                    go_wp2
                    go_meet
                    case rel => exact ⟨_, (true), (by first | rfl | (simp; done) | (simp [*]; done)), H', ⟨by first | omega | exact Nat.le_refl _⟩, ⟨by repeat (first | (with_reducible first | exact HB.out | apply below_alloc | apply pw_below_drewN | apply below_drew1) | exact HB.out)⟩⟩
                  · rw [if_neg c35] at H
                    have c35b0 : decide (t164 ≤ t162) = false := decide_eq_false c35
                    clear c35
                    have H' := Aside0.mk H
                    clear H
                    go_wp2
                    go_meet
                    case rel => exact ⟨_, (decide (t166 ≤ t162)), (by first | rfl | (simp; done) | (simp [*]; done)), H', ⟨by first | omega | exact Nat.le_refl _⟩, ⟨by repeat (first | (with_reducible first | exact HB.out | apply below_alloc | apply pw_below_drewN | apply below_drew1) | exact HB.out)⟩⟩
      case rest =>
        clear HC21
        try clear c1
        try clear p2
        try clear c3
        try clear c5
        try clear p6
        try clear c8
        try clear c9
        try clear c9b0
        try clear c9b1
        try clear c10
        try clear c11
        try clear c12
        try clear c14
        try clear c30
        try clear c30b0
        try clear c31
        try clear c31b0
        try clear c32
        try clear c32b0
        try clear c33
        try clear c33b0
        try clear c34
        try clear c34b0
        try clear c35
        try clear c35b0
        obtain ⟨kq, x124_20, rfl, HA, HJ20, HB⟩ := hcut
        cases kq with
        | zero => exact absurd HA.out (by simp [soundservicelaw24_CostGrows.j0])
        | succ kj20 =>
          have H := HA.out
          clear HA
          simp only [soundservicelaw24_CostGrows.j0] at H
          by_cases c36 : x124_20 = true
          · subst c36
            have H1 : (some false) = some r := by rw [if_pos rfl] at H; exact H
            clear H
            have H := H1
            clear H1
            obtain rfl := Option.some.inj H
            go_wp2
            go_ret
            exact ⟨by first | rfl | (simp [errW_none, errW_some] <;> rfl) | (simp [*, errW_none, errW_some] <;> rfl), by repeat (first | (with_reducible first | exact HB.out | apply below_alloc | apply pw_below_drewN | apply below_drew1) | exact HB.out)⟩
          · replace c36 := Bool.eq_false_iff.mpr c36
            subst c36
            have H1 : (soundservicelaw24_CostGrows.l0 kj20 l3 a4 a5 ([] : List Int) (l3.length : Int) 0) = some r := by rw [if_neg (show ¬ (false = true) by decide)] at H; exact H
            clear H
            have H := H1
            clear H1
            have H' := Aside0.mk H
            clear H
            go_wp2
            go_loopg [27, 127] kj20 (fun kq v27 v127 w' => ∃ (x27_2 : List Int) (x127_2 : Int), v127 = .int .i64 x127_2 ∧ Aside0 (soundservicelaw24_CostGrows.l0 kq l3 a4 a5 x27_2 (l3.length : Int) x127_2 = some r) ∧ Aside0 (kq ≤ kj20) ∧ Aside0 (Kd.R (Kd.int .i64) 3 w' w.heap.size (fun _ => True) v27 x27_2) ∧ Aside0 (Below w.heap.size w w'))
            case atStart => exact ⟨(([] : List Int)), (0), (by first | rfl | (simp; done) | (simp [*]; done)), H', ⟨Nat.le_refl _⟩, ⟨by first | exact Kd.R_nil _ _ _ _ _ | exact Kd.N_nil _ _ _ _ _ | exact Kd.V_nil _ _ _ _ _ | exact Kd.Q_nil _ _ _ _ _ | exact Kd.S_nil _ _ _ _ _⟩, ⟨by repeat (first | (with_reducible first | exact HB.out | apply below_alloc | apply pw_below_drewN | apply below_drew1) | exact HB.out)⟩⟩
            case round =>
              clear H'
              try clear c1
              try clear p2
              try clear c3
              try clear c5
              try clear p6
              try clear c8
              try clear c9
              try clear c9b0
              try clear c9b1
              try clear c10
              try clear c11
              try clear c12
              try clear c14
              try clear c30
              try clear c30b0
              try clear c31
              try clear c31b0
              try clear c32
              try clear c32b0
              try clear c33
              try clear c33b0
              try clear c34
              try clear c34b0
              try clear c35
              try clear c35b0
              try clear c36
              try clear p2
              try clear p6
              obtain ⟨x27_2, x127_2, rfl, HA, HK2, HO_27, HB⟩ := hrel
              cases gk with
              | zero => exact absurd HA.out (by simp [soundservicelaw24_CostGrows.l0])
              | succ k2 =>
                have H := HA.out
                clear HA
                simp only [soundservicelaw24_CostGrows.l0] at H
                by_cases c37 : x127_2 < (l3.length : Int)
                · rw [if_pos c37] at H
                  have c37b0 : decide (x127_2 < (l3.length : Int)) = true := decide_eq_true c37
                  clear c37
                  obtain ⟨ji38, hji38⟩ : ∃ j_ : Int, (wrap64 ((wrap64 ((l3.length : Int) - 1)) - x127_2)) = j_ := ⟨_, rfl⟩
                  replace H : (if 0 ≤ (ji38) then (if (ji38) < (l3.length : Int) then (if x27_2.length < 17592186044416 then (soundservicelaw24_CostGrows.l0 k2 l3 a4 a5 (x27_2 ++ [rd l3 (ji38)]) (l3.length : Int) (wrap64 (x127_2 + 1))) else (none)) else (none)) else (none)) = some r := by first | (rw [hji38] at H; exact H) | (simp only [hji38] at H ⊢; exact H)
                  have hji38w : (IntKind.i64.wrap ((wrap64 ((l3.length : Int) - 1)) - x127_2)) = ji38 := (i64_w _).trans hji38
                  by_cases c39 : 0 ≤ (ji38)
                  · rw [if_pos c39] at H
                    have c39b0 : decide (0 ≤ (ji38)) = true := decide_eq_true c39
                    clear c39
                    by_cases c40 : (ji38) < (l3.length : Int)
                    · rw [if_pos c40] at H
                      have c40b0 : decide ((ji38) < (l3.length : Int)) = true := decide_eq_true c40
                      clear c40
                      by_cases c41 : x27_2.length < 17592186044416
                      · rw [if_pos c41] at H
                        have LMc41 := Aside0.mk c41
                        clear c41
                        obtain ⟨y169, hy169⟩ : ∃ y_ : List Int, y_ = (x27_2 ++ [rd l3 (ji38)]) := ⟨_, rfl⟩
                        replace H : (soundservicelaw24_CostGrows.l0 k2 l3 a4 a5 y169 (l3.length : Int) (wrap64 (x127_2 + 1))) = some r := by first | (rw [hy169]; with_reducible exact H) | (have H2_ := (Option.bind_some _ _).symm.trans H; rw [hy169]; with_reducible exact H2_) | (have H2_ := (Option.bind_some _ _).symm.trans H; with_reducible exact H2_) | with_reducible exact H | (rw [hy169]; exact H) | exact H
                        have Ny169 := Aside0.mk hy169
                        clear hy169
                        have H' := Aside0.mk H
                        clear H
                        have p168 : 0 ≤ ((ji38) : Int) := of_decide_eq_true (by first | (with_reducible assumption) | assumption)
                        have q168 : (ji38) < (l3.length : Int) := of_decide_eq_true (by first | (with_reducible assumption) | assumption)
                        obtain ⟨ad168, e168, hx168_0⟩ := Kd.at_int HR3.out (ji38) p168 q168
                        cases e168
                        replace hx168_0 := (HB.out.cell (World.block_lt_of_cell? w _ hx168_0)).trans hx168_0
                        replace p168 := eq_true p168
                        replace q168 := eq_true q168
                        go_wp2_with (first | ((with_reducible refine gate_builtin (b := .append) (xs := #[.tmp 130, .tmp 139]) rfl ?_); at_builtin; refine Kd.R_append (Kd.int .i64) (w0 := w) w.heap.size rfl (.tmp 130) (.tmp 139) 31 3 (.int .i64 0) 8 rfl Try.underlying31 info3 rfl (by decide) (by omega) u27 x27_2 (rd l3 (ji38)) [.int .i64 (rd l3 (ji38))] (fun _ => True) (fun _ => False) rfl rfl ?aP (fun _ hk => hk.elim) ?aF ?aO ?aB ?aS ?aL ?_; (case aP => exact rfl); (case aB => exact (by repeat (first | (with_reducible first | exact HB.out | apply below_alloc | apply pw_below_drewN | apply below_drew1) | exact HB.out))); (case aF => exact (fun _ _ => trivial)); (case aO => exact (by (with_reducible repeat (first | apply Kd.R_alloc | apply Kd.R_drewN | apply Kd.R_drew)); exact HO_27.out)); (case aS => exact (below_size (by repeat (first | (with_reducible first | exact HB.out | apply below_alloc | apply pw_below_drewN | apply below_drew1) | exact HB.out)))); (case aL => have := LMc41.out; omega); intro v170 w42 ho hb hg hat; rw [← Ny169.out] at ho; have n0_ := Aside0.mk (hb); have n1_ := Aside0.mk (ho); clear HB; clear HO_27; have HB := n0_; have HO171 := n1_; clear n0_ n1_; clear ho hb hg hat))
                        go_roundg k2
                        case measure => have := HJ20.out; have := HK2.out; omega
                        case rel => exact ⟨(y169), (wrap64 (x127_2 + 1)), (by first | rfl | (simp; done) | (simp [*]; done)), H', ⟨by have := HJ20.out; have := HK2.out; omega⟩, ⟨by (with_reducible repeat (first | apply Kd.R_alloc | apply Kd.R_drewN | apply Kd.R_drew)); exact HO171.out⟩, ⟨by repeat (first | (with_reducible first | exact HB.out | apply below_alloc | apply pw_below_drewN | apply below_drew1) | exact HB.out)⟩⟩
                      · rw [if_neg c41] at H
                        exact absurd H (by simp)
                    · rw [if_neg c40] at H
                      exact absurd H (by simp)
                  · rw [if_neg c39] at H
                    exact absurd H (by simp)
                · rw [if_neg c37] at H
                  have c37b0 : decide (x127_2 < (l3.length : Int)) = false := decide_eq_false c37
                  clear c37
                  replace H := Option.bind_eq_some_iff.mp H
                  obtain ⟨t172, A430, H⟩ := H
                  replace H : ((soundservicemill_Mod.f a5 100000).bind fun t173 => ((cost_Total.f k2 l3).bind fun t174 => ((cost_Total.f k2 x27_2).bind fun t175 => (if t174 = t175 then ((cost_Share.f k2 t172 (wrap64 (1 + t173))).bind fun t176 => (some ((decide (t176 ≤ 100)) == (decide (t172 ≤ (wrap64 (1 + t173))))))) else (some false))))) = some r := H
                  have A43 := Aside0.mk A430
                  clear A430
                  replace H := Option.bind_eq_some_iff.mp H
                  obtain ⟨t173, A440, H⟩ := H
                  replace H : ((cost_Total.f k2 l3).bind fun t174 => ((cost_Total.f k2 x27_2).bind fun t175 => (if t174 = t175 then ((cost_Share.f k2 t172 (wrap64 (1 + t173))).bind fun t176 => (some ((decide (t176 ≤ 100)) == (decide (t172 ≤ (wrap64 (1 + t173))))))) else (some false)))) = some r := H
                  have A44 := Aside0.mk A440
                  clear A440
                  replace H := Option.bind_eq_some_iff.mp H
                  obtain ⟨t174, A450, H⟩ := H
                  replace H : ((cost_Total.f k2 x27_2).bind fun t175 => (if t174 = t175 then ((cost_Share.f k2 t172 (wrap64 (1 + t173))).bind fun t176 => (some ((decide (t176 ≤ 100)) == (decide (t172 ≤ (wrap64 (1 + t173))))))) else (some false))) = some r := H
                  have A45 := Aside0.mk A450
                  clear A450
                  replace H := Option.bind_eq_some_iff.mp H
                  obtain ⟨t175, A460, H⟩ := H
                  replace H : (if t174 = t175 then ((cost_Share.f k2 t172 (wrap64 (1 + t173))).bind fun t176 => (some ((decide (t176 ≤ 100)) == (decide (t172 ≤ (wrap64 (1 + t173))))))) else (some false)) = some r := H
                  have A46 := Aside0.mk A460
                  clear A460
                  by_cases c47 : t174 = t175
                  · rw [if_pos c47] at H
                    have c47b0 : (t174 == t175) = true := beq_iff_eq.mpr c47
                    have c47b1 : (t174 != t175) = false := bne_eq_false_iff_eq.mpr c47
                    clear c47
                    replace H := Option.bind_eq_some_iff.mp H
                    obtain ⟨t176, A480, H⟩ := H
                    replace H : (some ((decide (t176 ≤ 100)) == (decide (t172 ≤ (wrap64 (1 + t173)))))) = some r := H
                    have A48 := Aside0.mk A480
                    clear A480
                    obtain rfl := Option.some.inj H
                    go_wp2_with (first | ((with_reducible refine gate_callee (f := 11) rfl ?_); refine goesL_ (some 143) rfl rfl Try.func11 (by kernel_rfl) rfl #[.int .i64 a4, .int .i64 100000] rfl (by (try simp only [List.map_toArray, List.map_cons, List.map_nil]); first | done | rfl | (simp only [List.length_drop, List.length_take]; rfl)) ?_; (with_reducible refine (soundservicemill_Mod.calls a4 100000 t172 _ A43.out).mono ?_); rintro e w' ⟨rfl, ⟨nd, rfl⟩⟩; refine ⟨_, rfl, ?_⟩) | ((with_reducible refine gate_callee (f := 11) rfl ?_); refine goesL_ (some 145) rfl rfl Try.func11 (by kernel_rfl) rfl #[.int .i64 a5, .int .i64 100000] rfl (by (try simp only [List.map_toArray, List.map_cons, List.map_nil]); first | done | rfl | (simp only [List.length_drop, List.length_take]; rfl)) ?_; (with_reducible refine (soundservicemill_Mod.calls a5 100000 t173 _ A44.out).mono ?_); rintro e w' ⟨rfl, ⟨nd, rfl⟩⟩; refine ⟨_, rfl, ?_⟩) | ((with_reducible refine gate_callee (f := 16) rfl ?_); refine goesL_ (some 148) rfl rfl Try.func16 (by kernel_rfl) rfl #[.slice A3 l3.length c3] rfl (by (try simp only [List.map_toArray, List.map_cons, List.map_nil]); first | done | rfl | (simp only [List.length_drop, List.length_take]; rfl)) ?_; (with_reducible refine (cost_Total.calls k2 _ _ l3 t174 _ ?side1 ?side2 A45.out).mono ?_); (case side1 => repeat (first | exact (Kd.C_below HR3.out (by repeat (first | (with_reducible first | exact HB.out | apply below_alloc | apply pw_below_drewN | apply below_drew1) | exact HB.out))) | (with_reducible refine Kd.C_alloc ?_ _) | (with_reducible refine Kd.C_drewN ?_ _) | (with_reducible refine Kd.C_drew ?_))); (case side2 => exact HC3.out); rintro e w49 ⟨rfl, hb⟩; refine ⟨_, rfl, ?_⟩; have n0_ := Aside0.mk (Kd.R_below (by (with_reducible repeat (first | apply Kd.R_alloc | apply Kd.R_drewN | apply Kd.R_drew)); exact HO_27.out) hb); have n1_ := Aside0.mk (below_step (by repeat (first | (with_reducible first | exact HB.out | apply below_alloc | apply pw_below_drewN | apply below_drew1) | exact HB.out)) hb); clear HO_27; clear HB; have HO_27 := n0_; have HB := n1_; clear n0_ n1_; (try clear hb); (try clear hb2); (try clear hk); (try clear hi); obtain ⟨Ao50, co50, eo50⟩ := Kd.R_slice HO_27.out; subst eo50) | ((with_reducible refine gate_callee (f := 16) rfl ?_); refine goesL_ (some 150) rfl rfl Try.func16 (by kernel_rfl) rfl #[.slice Ao50 x27_2.length co50] rfl (by (try simp only [List.map_toArray, List.map_cons, List.map_nil]); first | done | rfl | (simp only [List.length_drop, List.length_take]; rfl)) ?_; (with_reducible refine (cost_Total.calls k2 _ _ x27_2 t175 _ ?side1 ?side2 A46.out).mono ?_); (case side1 => repeat (first | exact (Kd.R_reads' HO_27.out).2.2 | (with_reducible refine Kd.C_alloc ?_ _) | (with_reducible refine Kd.C_drewN ?_ _) | (with_reducible refine Kd.C_drew ?_))); (case side2 => exact (Kd.R_reads' HO_27.out).2.1); rintro e w51 ⟨rfl, hb⟩; refine ⟨_, rfl, ?_⟩; have n0_ := Aside0.mk (Kd.R_below (by (with_reducible repeat (first | apply Kd.R_alloc | apply Kd.R_drewN | apply Kd.R_drew)); exact HO_27.out) hb); have n1_ := Aside0.mk (below_step (by repeat (first | (with_reducible first | exact HB.out | apply below_alloc | apply pw_below_drewN | apply below_drew1) | exact HB.out)) hb); clear HO_27; clear HB; have HO_27 := n0_; have HB := n1_; clear n0_ n1_; (try clear hb); (try clear hb2); (try clear hk); (try clear hi)) | (go_at_call 18; (with_reducible refine (cost_Share.calls k2 t172 (wrap64 (1 + t173)) t176 _ A48.out).mono ?_); rintro e w52 ⟨rfl, hb⟩; have n0_ := Aside0.mk (Kd.R_below (by (with_reducible repeat (first | apply Kd.R_alloc | apply Kd.R_drewN | apply Kd.R_drew)); exact HO_27.out) hb); have n1_ := Aside0.mk (below_step (by repeat (first | (with_reducible first | exact HB.out | apply below_alloc | apply pw_below_drewN | apply below_drew1) | exact HB.out)) hb); clear HO_27; clear HB; have HO_27 := n0_; have HB := n1_; clear n0_ n1_; (try clear hb); (try clear hb2); (try clear hk); (try clear hi)))
                    go_ret
                    exact ⟨by first | rfl | (simp [errW_none, errW_some] <;> rfl) | (simp [*, errW_none, errW_some] <;> rfl), by repeat (first | (with_reducible first | exact HB.out | apply below_alloc | apply pw_below_drewN | apply below_drew1) | exact HB.out)⟩
                  · rw [if_neg c47] at H
                    have c47b0 : (t174 == t175) = false := beq_eq_false_iff_ne.mpr c47
                    have c47b1 : (t174 != t175) = true := bne_iff_ne.mpr c47
                    obtain rfl := Option.some.inj H
                    go_wp2_with (first | ((with_reducible refine gate_callee (f := 11) rfl ?_); refine goesL_ (some 143) rfl rfl Try.func11 (by kernel_rfl) rfl #[.int .i64 a4, .int .i64 100000] rfl (by (try simp only [List.map_toArray, List.map_cons, List.map_nil]); first | done | rfl | (simp only [List.length_drop, List.length_take]; rfl)) ?_; (with_reducible refine (soundservicemill_Mod.calls a4 100000 t172 _ A43.out).mono ?_); rintro e w' ⟨rfl, ⟨nd, rfl⟩⟩; refine ⟨_, rfl, ?_⟩) | ((with_reducible refine gate_callee (f := 11) rfl ?_); refine goesL_ (some 145) rfl rfl Try.func11 (by kernel_rfl) rfl #[.int .i64 a5, .int .i64 100000] rfl (by (try simp only [List.map_toArray, List.map_cons, List.map_nil]); first | done | rfl | (simp only [List.length_drop, List.length_take]; rfl)) ?_; (with_reducible refine (soundservicemill_Mod.calls a5 100000 t173 _ A44.out).mono ?_); rintro e w' ⟨rfl, ⟨nd, rfl⟩⟩; refine ⟨_, rfl, ?_⟩) | ((with_reducible refine gate_callee (f := 16) rfl ?_); refine goesL_ (some 148) rfl rfl Try.func16 (by kernel_rfl) rfl #[.slice A3 l3.length c3] rfl (by (try simp only [List.map_toArray, List.map_cons, List.map_nil]); first | done | rfl | (simp only [List.length_drop, List.length_take]; rfl)) ?_; (with_reducible refine (cost_Total.calls k2 _ _ l3 t174 _ ?side1 ?side2 A45.out).mono ?_); (case side1 => repeat (first | exact (Kd.C_below HR3.out (by repeat (first | (with_reducible first | exact HB.out | apply below_alloc | apply pw_below_drewN | apply below_drew1) | exact HB.out))) | (with_reducible refine Kd.C_alloc ?_ _) | (with_reducible refine Kd.C_drewN ?_ _) | (with_reducible refine Kd.C_drew ?_))); (case side2 => exact HC3.out); rintro e w53 ⟨rfl, hb⟩; refine ⟨_, rfl, ?_⟩; have n0_ := Aside0.mk (Kd.R_below (by (with_reducible repeat (first | apply Kd.R_alloc | apply Kd.R_drewN | apply Kd.R_drew)); exact HO_27.out) hb); have n1_ := Aside0.mk (below_step (by repeat (first | (with_reducible first | exact HB.out | apply below_alloc | apply pw_below_drewN | apply below_drew1) | exact HB.out)) hb); clear HO_27; clear HB; have HO_27 := n0_; have HB := n1_; clear n0_ n1_; (try clear hb); (try clear hb2); (try clear hk); (try clear hi); obtain ⟨Ao54, co54, eo54⟩ := Kd.R_slice HO_27.out; subst eo54) | ((with_reducible refine gate_callee (f := 16) rfl ?_); refine goesL_ (some 150) rfl rfl Try.func16 (by kernel_rfl) rfl #[.slice Ao54 x27_2.length co54] rfl (by (try simp only [List.map_toArray, List.map_cons, List.map_nil]); first | done | rfl | (simp only [List.length_drop, List.length_take]; rfl)) ?_; (with_reducible refine (cost_Total.calls k2 _ _ x27_2 t175 _ ?side1 ?side2 A46.out).mono ?_); (case side1 => repeat (first | exact (Kd.R_reads' HO_27.out).2.2 | (with_reducible refine Kd.C_alloc ?_ _) | (with_reducible refine Kd.C_drewN ?_ _) | (with_reducible refine Kd.C_drew ?_))); (case side2 => exact (Kd.R_reads' HO_27.out).2.1); rintro e w55 ⟨rfl, hb⟩; refine ⟨_, rfl, ?_⟩; have n0_ := Aside0.mk (Kd.R_below (by (with_reducible repeat (first | apply Kd.R_alloc | apply Kd.R_drewN | apply Kd.R_drew)); exact HO_27.out) hb); have n1_ := Aside0.mk (below_step (by repeat (first | (with_reducible first | exact HB.out | apply below_alloc | apply pw_below_drewN | apply below_drew1) | exact HB.out)) hb); clear HO_27; clear HB; have HO_27 := n0_; have HB := n1_; clear n0_ n1_; (try clear hb); (try clear hb2); (try clear hk); (try clear hi)))
                    go_ret
                    exact ⟨by first | rfl | (simp [errW_none, errW_some] <;> rfl) | (simp [*, errW_none, errW_some] <;> rfl), by repeat (first | (with_reducible first | exact HB.out | apply below_alloc | apply pw_below_drewN | apply below_drew1) | exact HB.out)⟩
  · replace c8 := Bool.eq_false_iff.mpr c8
    subst c8
    have H1 : (some false) = some r := by rw [if_neg (show ¬ (false = true) by decide)] at H; exact H
    clear H
    have H := H1
    clear H1
    obtain rfl := Option.some.inj H
    go_enter Try.func5, Try.ntmps5
    go_wp2_with (first | ((with_reducible refine gate_callee (f := 10) rfl ?_); refine goesL_ (some 29) rfl rfl Try.func10 (by kernel_rfl) rfl #[] rfl (by (try simp only [List.map_toArray, List.map_cons, List.map_nil]); first | done | rfl | (simp only [List.length_drop, List.length_take]; rfl)) ?_; (with_reducible refine (soundservicelaw24_sane.calls k  false _ A7.out).mono ?_); rintro e w56 ⟨rfl, hb⟩; refine ⟨_, rfl, ?_⟩; have n0_ := Aside0.mk (below_step (by repeat (first | (with_reducible first | exact HB.out | apply below_alloc | apply pw_below_drewN | apply below_drew1) | exact HB.out)) hb); clear HB; have HB := n0_; clear n0_; (try clear hb); (try clear hb2); (try clear hk); (try clear hi)))
    go_ret
    exact ⟨by first | rfl | (simp [errW_none, errW_some] <;> rfl) | (simp [*, errW_none, errW_some] <;> rfl), by repeat (first | (with_reducible first | exact HB.out | apply below_alloc | apply pw_below_drewN | apply below_drew1) | exact HB.out)⟩

/-- THE ONE PURE STATEMENT of soundservicelaw24_CostGrows: yours. -/
def soundservicelaw24_CostGrows.Pure : Prop := ∀ (a0 : Int) (a1 : Int) (a2 : Int) (l3 : List Int) (a4 : Int) (a5 : Int), (Lit.int .i64 a0).wf = true → (Lit.int .i64 a1).wf = true → (Lit.int .i64 a2).wf = true → l3.length ≤ maxLen → l3.length * 8 ≤ 140737488351232 → (∀ x ∈ l3, (Lit.int .i64 x).wf = true) → (Lit.int .i64 a4).wf = true → (Lit.int .i64 a5).wf = true → ∃ k, soundservicelaw24_CostGrows.f k a0 a1 a2 l3 a4 a5 = some true
theorem soundservicelaw24_CostGrows.walk (P : soundservicelaw24_CostGrows.Pure) (a0 : Int) (a1 : Int) (a2 : Int) (a3 : Option Addr) (len3 cap3 : Nat) (z3 : List Int) (a4 : Int) (a5 : Int) (w : World) (w0 : (Lit.int .i64 a0).wf = true) (w1 : (Lit.int .i64 a1).wf = true) (w2 : (Lit.int .i64 a2).wf = true) (w3 : (a3 = none ∧ len3 = 0 ∧ cap3 = 0 ∧ z3 = []) ∨ ∃ x, a3 = some x ∧ len3 ≤ cap3 ∧ cap3 ≤ maxLen ∧ z3.length = cap3 ∧ (∀ i, i < z3.length → w.cell? (x.add i) = some (.int .i64 (z3.getD i 0))) ∧ ∀ n ∈ z3, (Lit.int .i64 n).wf = true) (y3 : len3 * 8 ≤ 140737488351232) (w4 : (Lit.int .i64 a4).wf = true) (w5 : (Lit.int .i64 a5).wf = true) :
    Calls Try.prog 5 #[.int .i64 a0, .int .i64 a1, .int .i64 a2, .slice a3 len3 cap3, .int .i64 a4, .int .i64 a5] w fun e w' => e = .returned (.bool true) ∧ Below w.heap.size w w' := by
  obtain ⟨l3, rfl, hr3, hm3, hw3, hc3⟩ := ReadsInt.ofRowC w3
  obtain ⟨k, h⟩ := P a0 a1 a2 l3 a4 a5 w0 w1 w2 hm3 y3 hw3 w4 w5
  refine (soundservicelaw24_CostGrows.calls k a0 a1 a2 _ _ l3 a4 a5 true w (Kd.C_of_reads (d := (0 : Int)) (h1 := fun _ => rfl) hr3) hc3 h).mono ?_
  rintro e w' ⟨rfl, hd⟩
  exact ⟨rfl, hd⟩

/-! ### plug_fades: function 40 -/
def plug_fades.f (a0 : Int) : Option (Bool) := if a0 ≥ 1 then (some (decide (a0 ≤ 4096))) else (some false)
set_option maxHeartbeats 8000000 in
set_option maxRecDepth 100000 in
theorem plug_fades.calls (a0 : Int) (r : Bool) (w : World) (h : plug_fades.f a0 = some r) :
    Calls Try.prog 40 #[.int .i64 a0] w fun e w' => e = .returned (.bool r) ∧ Drawn0 w w' := by
  have H : (if a0 ≥ 1 then (some (decide (a0 ≤ 4096))) else (some false)) = some r := h
  clear h
  by_cases c2 : a0 ≥ 1
  · rw [if_pos c2] at H
    have c2b0 : decide (1 ≤ a0) = true := decide_eq_true c2
    clear c2
    obtain rfl := Option.some.inj H
    go_enter Try.func40, Try.ntmps40
    go_wp2
    go_ret
    exact ⟨by first | rfl | (simp; done) | (simp [*]; done), by repeat (first | exact Drawn0.refl _ | apply Drawn0.step)⟩
  · rw [if_neg c2] at H
    have c2b0 : decide (1 ≤ a0) = false := decide_eq_false c2
    clear c2
    obtain rfl := Option.some.inj H
    go_enter Try.func40, Try.ntmps40
    go_wp2
    go_ret
    exact ⟨by first | rfl | (simp; done) | (simp [*]; done), by repeat (first | exact Drawn0.refl _ | apply Drawn0.step)⟩

/-! ### plug_over: function 41 -/
def plug_over.f (a0_0 : Int) (a0_1 : Int) (a0_2 : Int) (a0_3 : Int) (a0_4 : Int) : Option (Int × Int × Int × Int × Int) := some (a0_0, a0_1, a0_2, 3, 0)
set_option maxHeartbeats 8000000 in
set_option maxRecDepth 100000 in
theorem plug_over.calls (a0_0 : Int) (a0_1 : Int) (a0_2 : Int) (a0_3 : Int) (a0_4 : Int) (r1 : Int) (r2 : Int) (r3 : Int) (r4 : Int) (r5 : Int) (w : World) (h : plug_over.f a0_0 a0_1 a0_2 a0_3 a0_4 = some (r1, r2, r3, r4, r5)) :
    Calls Try.prog 41 #[.agg #[.int .i64 a0_0, .int .u64 a0_1, .int .u64 a0_2, .int .i64 a0_3, .int .i64 a0_4]] w fun e w' => e = .returned (.agg #[.int .i64 r1, .int .u64 r2, .int .u64 r3, .int .i64 r4, .int .i64 r5]) ∧ Below w.heap.size w w' := by
  have hu37 := Try.underlying37
  have HB := Aside0.mk (Below.refl w.heap.size w)
  have H : (some (a0_0, a0_1, a0_2, 3, 0)) = some (r1, r2, r3, r4, r5) := h
  clear h
  simp only [Option.some.injEq, Prod.mk.injEq] at H
  obtain ⟨rfl, rfl, rfl, rfl, rfl⟩ := H
  go_enter Try.func41, Try.ntmps41
  go_wp2_with (first | ((with_reducible refine gate_dst (N := 1) rfl ?_); refine box_event ?hg (N := 1) ?hd (cs := #[.int .i64 a0_0, .int .u64 a0_1, .int .u64 a0_2, .int .i64 a0_3, .int .i64 a0_4]) (t := 37) ?hr ?_; (case hd => rfl); (case hg => rfl); (case hr => first | (go_simp; done) | (go_simp; rfl)); intro gb177 hg w2 hbox hb; have n0_ := Aside0.mk (below_step (by repeat (first | (with_reducible first | exact HB.out | apply below_alloc | apply pw_below_drewN | apply below_drew1) | exact HB.out)) hb); have n1_ := Aside0.mk (hbox); have n2_ := Aside0.mk ((by rw [hg]; exact (below_size (by repeat (first | (with_reducible first | exact HB.out | apply below_alloc | apply pw_below_drewN | apply below_drew1) | exact HB.out))) : w.heap.size ≤ gb177)); have n3_ := Aside0.mk ((by rw [hg]; exact (below_size (by repeat (first | (with_reducible first | exact HB.out | apply below_alloc | apply pw_below_drewN | apply below_drew1) | exact HB.out))) : w.heap.size ≤ gb177)); clear HB; have HB := n0_; have BK177 := n1_; have GW177 := n2_; have GE177 := n3_; clear n0_ n1_ n2_ n3_; clear hb hbox hg) | ((with_reducible refine gate_dst (N := 2) rfl ?_); refine box_event ?hg (N := 2) ?hd (cs := #[.int .i64 0, .int .u64 0, .int .u64 0, .int .i64 0, .int .i64 0]) (t := 37) ?hr ?_; (case hd => rfl); (case hg => rfl); (case hr => first | (go_simp; done) | (go_simp; rfl)); intro gb178 hg w3 hbox hb; have n0_ := Aside0.mk (blk_below (g := gb177) (o := .cells #[.int .i64 a0_0, .int .u64 a0_1, .int .u64 a0_2, .int .i64 a0_3, .int .i64 a0_4] 37 (0, 0)) (by (with_reducible repeat (first | refine blk_drewN ?_ _ | refine blk_drew ?_ | refine blk_alloc ?_ _)); exact BK177.out) hb); have n1_ := Aside0.mk (below_step (by repeat (first | (with_reducible first | exact HB.out | apply below_alloc | apply pw_below_drewN | apply below_drew1 | refine below_set ?_ GE177.out) | exact HB.out)) hb); have n2_ := Aside0.mk (hbox); have n3_ := Aside0.mk ((by rw [hg]; exact (below_size (by repeat (first | (with_reducible first | exact HB.out | apply below_alloc | apply pw_below_drewN | apply below_drew1 | refine below_set ?_ GE177.out) | exact HB.out))) : w.heap.size ≤ gb178)); have n4_ := Aside0.mk ((by rw [hg]; exact (below_size (by repeat (first | (with_reducible first | exact HB.out | apply below_alloc | apply pw_below_drewN | apply below_drew1 | refine below_set ?_ GE177.out) | exact HB.out))) : w.heap.size ≤ gb178)); have n5_ := Aside0.mk ((by rw [hg]; exact Nat.ne_of_lt (blk_lt (g := gb177) (o := .cells #[.int .i64 a0_0, .int .u64 a0_1, .int .u64 a0_2, .int .i64 a0_3, .int .i64 a0_4] 37 (0, 0)) (by (with_reducible repeat (first | refine blk_drewN ?_ _ | refine blk_drew ?_ | refine blk_alloc ?_ _)); exact BK177.out)) : gb177 ≠ gb178)); have n6_ := Aside0.mk ((by rw [hg]; exact Nat.ne_of_gt (blk_lt (g := gb177) (o := .cells #[.int .i64 a0_0, .int .u64 a0_1, .int .u64 a0_2, .int .i64 a0_3, .int .i64 a0_4] 37 (0, 0)) (by (with_reducible repeat (first | refine blk_drewN ?_ _ | refine blk_drew ?_ | refine blk_alloc ?_ _)); exact BK177.out)) : gb178 ≠ gb177)); clear BK177; clear HB; have BK177 := n0_; have HB := n1_; have BK178 := n2_; have GW178 := n3_; have GE178 := n4_; have NB177_178 := n5_; have NB178_177 := n6_; clear n0_ n1_ n2_ n3_ n4_ n5_ n6_; clear hb hbox hg; have hnb4 := NB177_178.out; have hnc4 := NB178_177.out; have hcz5_0 : w3.cell? ⟨gb177, 0, none⟩ = some (.int .i64 a0_0) := (blk_cell BK177.out 0).trans rfl; have hcz5_1 : w3.cell? ⟨gb177, 1, none⟩ = some (.int .u64 a0_1) := (blk_cell BK177.out 1).trans rfl; have hcz5_2 : w3.cell? ⟨gb177, 2, none⟩ = some (.int .u64 a0_2) := (blk_cell BK177.out 2).trans rfl; have hcz5_3 : w3.cell? ⟨gb177, 3, none⟩ = some (.int .i64 a0_3) := (blk_cell BK177.out 3).trans rfl; have hcz5_4 : w3.cell? ⟨gb177, 4, none⟩ = some (.int .i64 a0_4) := (blk_cell BK177.out 4).trans rfl; have hfz5_0 := blk_frozen BK177.out 0; have hfz5_1 := blk_frozen BK177.out 1; have hfz5_2 := blk_frozen BK177.out 2; have hfz5_3 := blk_frozen BK177.out 3; have hfz5_4 := blk_frozen BK177.out 4; have hcz6_0 : w3.cell? ⟨gb178, 0, none⟩ = some (.int .i64 0) := (blk_cell BK178.out 0).trans rfl; have hcz6_1 : w3.cell? ⟨gb178, 1, none⟩ = some (.int .u64 0) := (blk_cell BK178.out 1).trans rfl; have hcz6_2 : w3.cell? ⟨gb178, 2, none⟩ = some (.int .u64 0) := (blk_cell BK178.out 2).trans rfl; have hcz6_3 : w3.cell? ⟨gb178, 3, none⟩ = some (.int .i64 0) := (blk_cell BK178.out 3).trans rfl; have hcz6_4 : w3.cell? ⟨gb178, 4, none⟩ = some (.int .i64 0) := (blk_cell BK178.out 4).trans rfl; have hfz6_0 := blk_frozen BK178.out 0; have hfz6_1 := blk_frozen BK178.out 1; have hfz6_2 := blk_frozen BK178.out 2; have hfz6_3 := blk_frozen BK178.out 3; have hfz6_4 := blk_frozen BK178.out 4))
  refine bodyPost_ret (results_cell_row rfl _ _ gb178 37 #[.int .i64 a0_0, .int .u64 a0_1, .int .u64 a0_2, .int .i64 3, .int .i64 0] (0, 0) _ rfl (by (with_reducible repeat (first | refine blk_drewN ?_ _ | refine blk_drew ?_ | refine blk_alloc ?_ _)); refine blk_put (cs := #[.int .i64 a0_0, .int .u64 a0_1, .int .u64 a0_2, .int .i64 3, .int .i64 0]) ?_ 4 _ rfl; (with_reducible repeat (first | refine blk_drewN ?_ _ | refine blk_drew ?_ | refine blk_alloc ?_ _)); refine blk_put (cs := #[.int .i64 a0_0, .int .u64 a0_1, .int .u64 a0_2, .int .i64 0, .int .i64 0]) ?_ 3 _ rfl; (with_reducible repeat (first | refine blk_drewN ?_ _ | refine blk_drew ?_ | refine blk_alloc ?_ _)); refine blk_put (cs := #[.int .i64 a0_0, .int .u64 a0_1, .int .u64 0, .int .i64 0, .int .i64 0]) ?_ 2 _ rfl; (with_reducible repeat (first | refine blk_drewN ?_ _ | refine blk_drew ?_ | refine blk_alloc ?_ _)); refine blk_put (cs := #[.int .i64 a0_0, .int .u64 0, .int .u64 0, .int .i64 0, .int .i64 0]) ?_ 1 _ rfl; (with_reducible repeat (first | refine blk_drewN ?_ _ | refine blk_drew ?_ | refine blk_alloc ?_ _)); refine blk_put (cs := #[.int .i64 0, .int .u64 0, .int .u64 0, .int .i64 0, .int .i64 0]) ?_ 0 _ rfl; (with_reducible repeat (first | refine blk_drewN ?_ _ | refine blk_drew ?_ | refine blk_alloc ?_ _)); refine blk_far ?_ NB178_177.out _; (with_reducible repeat (first | refine blk_drewN ?_ _ | refine blk_drew ?_ | refine blk_alloc ?_ _)); refine blk_far ?_ NB178_177.out _; (with_reducible repeat (first | refine blk_drewN ?_ _ | refine blk_drew ?_ | refine blk_alloc ?_ _)); exact BK178.out) Try.underlying37 rfl (by kernel_rfl)) rfl ?_
  exact ⟨by first | rfl | (simp [errW_none, errW_some] <;> rfl) | (simp [*, errW_none, errW_some] <;> rfl), by repeat (first | (with_reducible first | exact HB.out | apply below_alloc | apply pw_below_drewN | apply below_drew1 | refine below_set ?_ GE177.out | refine below_set ?_ GE178.out) | exact HB.out)⟩

end Go.Proofs.Ytobcpkeapjflhaa.Q
