/- A move between two devices takes twice as many quanta as a fade, changes the device exactly once, when the stream is heard again, and is then over; for every input. -/
import Derived.Test.YtobcpkeapjflhaaQx9
import Derived.Test.YtobcpkeapjflhaaPlugL
namespace Go.Proofs.Ytobcpkeapjflhaa.Pure
open Go.RowKit Go.Proofs.Ytobcpkeapjflhaa.Q Go.Proofs.YtobcpkeapjflhaaW.PrintWords Go.Proofs.YtobcpkeapjflhaaW.PrintLast Go.Proofs.YtobcpkeapjflhaaW.PrintMore
set_option linter.unusedVariables false
set_option linter.unusedSimpArgs false
open Go.Proofs.Ytobcpkeapjflhaa.PlugL
/-- The move after j quanta. -/
def stp (F j : Int) : Int := if j < F then 1 else if j < 2 * F then 2 else 3
def stl (F j : Int) : Int := if j < F then F - j else if j < 2 * F then 2 * F - j else 0
theorem stp_1 (F j : Int) (h : j < F) : stp F j = 1 := by unfold stp; rw [if_pos h]
theorem stp_2 (F j : Int) (h : ¬ j < F) (h2 : j < 2 * F) : stp F j = 2 := by unfold stp; rw [if_neg h, if_pos h2]
theorem stp_3 (F j : Int) (h : ¬ j < F) (h2 : ¬ j < 2 * F) : stp F j = 3 := by unfold stp; rw [if_neg h, if_neg h2]
theorem stl_1 (F j : Int) (h : j < F) : stl F j = F - j := by unfold stl; rw [if_pos h]
theorem stl_2 (F j : Int) (h : ¬ j < F) (h2 : j < 2 * F) : stl F j = 2 * F - j := by unfold stl; rw [if_neg h, if_pos h2]
theorem stl_3 (F j : Int) (h : ¬ j < F) (h2 : ¬ j < 2 * F) : stl F j = 0 := by unfold stl; rw [if_neg h, if_neg h2]
theorem av_step (s f t F j : Int) (hF : 1 ≤ F) (hF2 : F ≤ 4096) (hj : 0 ≤ j) (hj2 : j < 2 * F) (ht : t ≠ 0) : av s f t (stp F j) (stl F j) F = (s, f, t, stp F (j + 1), stl F (j + 1)) := by
  have hfd : fd F = true := by unfold fd; simp; omega
  by_cases h1 : j < F
  · rw [stp_1 F j h1, stl_1 F j h1]
    unfold av
    rw [if_pos ⟨.inl rfl, by omega, hfd⟩, w64 (n := F - j - 1) (by omega) (by omega)]
    by_cases h2 : F - j - 1 > 0
    · rw [if_pos h2, stp_1 F (j + 1) (by omega), stl_1 F (j + 1) (by omega)]
      congr 4; omega
    · rw [if_neg h2, if_pos ⟨rfl, ht⟩, stp_2 F (j + 1) (by omega) (by omega), stl_2 F (j + 1) (by omega) (by omega)]
      congr 4; omega
  · rw [stp_2 F j h1 hj2, stl_2 F j h1 hj2]
    unfold av
    rw [if_pos ⟨.inr rfl, by omega, hfd⟩, w64 (n := 2 * F - j - 1) (by omega) (by omega)]
    by_cases h2 : 2 * F - j - 1 > 0
    · rw [if_pos h2, stp_2 F (j + 1) (by omega) (by omega), stl_2 F (j + 1) (by omega) (by omega)]
      congr 4; omega
    · rw [if_neg h2, if_neg (fun h => by have := h.1; omega), stp_3 F (j + 1) (by omega) (by omega), stl_3 F (j + 1) (by omega) (by omega)]
theorem fades_l0 (s f t F : Int) (hF : 1 ≤ F) (hF2 : F ≤ 4096) (ht : t ≠ 0) (hft : f ≠ t) (d : Nat) : ∀ (k : Nat) (j : Int), 0 ≤ j → j + d = 2 * F → d + 2 < k →
    soundservicelaw33_PlugFades.l0 k f t F j s f t (stp F j) (stl F j) = some true := by
  induction d with
  | zero =>
    intro k j h0 h1 hk
    obtain ⟨k, rfl⟩ : ∃ m, k = m + 2 := ⟨k - 2, by omega⟩
    have hj : j = 2 * F := by omega
    subst hj
    have e1 : stp F (2 * F) = 3 := stp_3 F _ (by omega) (by omega)
    have e2 : stl F (2 * F) = 0 := stl_3 F _ (by omega) (by omega)
    rw [soundservicelaw33_PlugFades.l0, w64 (n := 2 * F) (by omega) (by omega), if_neg (by omega), e1, e2]
    unfold plug_Wanted.f
    rw [if_neg (by omega), if_neg (by omega), if_pos rfl]
    simp only [Option.bind_some, if_true]
    rw [advance_f k]
    have e3 : av s f t 3 0 F = (s, f, t, 3, 0) := by unfold av; rw [if_neg (by omega)]
    rw [e3]
    simp
  | succ d ih =>
    intro k j h0 h1 hk
    obtain ⟨k, rfl⟩ : ∃ m, k = m + 2 := ⟨k - 2, by omega⟩
    rw [soundservicelaw33_PlugFades.l0, w64 (n := 2 * F) (by omega) (by omega), if_pos (by omega)]
    have hs : stp F j ≠ 3 := by unfold stp; split <;> (try split) <;> omega
    have hw : plug_Wanted.f s f t (stp F j) (stl F j) = some (if j < F then (f, false) else (t, true)) := by
      unfold plug_Wanted.f
      by_cases h : j < F
      · rw [stp_1 F j h, if_pos rfl, if_pos h]
      · rw [stp_2 F j h (by omega), if_neg (by omega), if_pos rfl, if_neg h]
    rw [hw, advance_f k, av_step s f t F j hF hF2 h0 (by omega) ht]
    simp only [Option.bind_some]
    rw [if_neg hs, w64 (n := j + 1) (by omega) (by omega), ih (k + 1) (j + 1) (by omega) (by omega) (by omega)]
    by_cases h : j < F
    · have : ¬ (j ≥ F) := by omega
      simp [h, this]
    · have : j ≥ F := by omega
      simp [h, this]
theorem PlugFades : soundservicelaw33_PlugFades.Pure := by
  intro a0 a1 a2 a3 h0 h1 h2 h3
  have g1 := wf_u64 h1
  have g2 := wf_u64 h2
  have b0 : 0 ≤ a3 % 12 := Int.emod_nonneg _ (by omega)
  have b1 : a3 % 12 < 12 := Int.emod_lt_of_pos _ (by omega)
  have c0 : 0 ≤ a1 % 9 := Int.emod_nonneg _ (by omega)
  have c1 : a1 % 9 < 9 := Int.emod_lt_of_pos _ (by omega)
  have d0 : 0 ≤ a2 % 9 := Int.emod_nonneg _ (by omega)
  have d1 : a2 % 9 < 9 := Int.emod_lt_of_pos _ (by omega)
  refine ⟨(2 * (1 + a3 % 12)).toNat + 12, ?_⟩
  unfold soundservicelaw33_PlugFades.f
  rw [sane_f _ (by omega), mod_f a3 12 (by omega) (by omega), Int.tmod_eq_emod_of_nonneg g1.1, Int.tmod_eq_emod_of_nonneg g2.1]
  simp only [Option.bind_some, if_true]
  rw [begin_f]
  simp only [Option.bind_some]
  rw [w64 (n := 1 + a3 % 12) (by omega) (by omega), u64 (n := 1 + a1 % 9) (by omega) (by omega), u64 (n := 11 + a2 % 9) (by omega) (by omega)]
  generalize a3 % 12 = x at *
  generalize a1 % 9 = y at *
  generalize a2 % 9 = z at *
  have hb : bg a0 (1 + y) (11 + z) (1 + x) = (a0, 1 + y, 11 + z, stp (1 + x) 0, stl (1 + x) 0) := by
    have hfd : fd (1 + x) = true := by unfold fd; simp; omega
    unfold bg
    rw [if_pos ⟨hfd, by omega⟩, stp_1 _ _ (by omega), stl_1 _ _ (by omega), if_neg (by omega)]
    congr 4; omega
  rw [hb]
  exact fades_l0 a0 (1 + y) (11 + z) (1 + x) (by omega) (by omega) (by omega) (by omega) (2 * (1 + x)).toNat _ 0 (by omega) (by omega) (by omega)
end Go.Proofs.Ytobcpkeapjflhaa.Pure
