/- A device is ready exactly from the quantum on in which it has been plugged for long enough; one which goes before is never ready; one which comes again begins anew; for every input. -/
import Derived.Test.YtobcpkeapjflhaaQx15
import Derived.Test.YtobcpkeapjflhaaPlugL
namespace Go.Proofs.Ytobcpkeapjflhaa.Pure
open Go.RowKit Go.Proofs.Ytobcpkeapjflhaa.Q Go.Proofs.YtobcpkeapjflhaaW.PrintWords Go.Proofs.YtobcpkeapjflhaaW.PrintLast Go.Proofs.YtobcpkeapjflhaaW.PrintMore
set_option linter.unusedVariables false
set_option linter.unusedSimpArgs false
open Go.Proofs.Ytobcpkeapjflhaa.PlugL
theorem plg_nil (s at_ : Int) (hs : 0 ≤ s) (hs2 : s ≤ 4096) (h0 : 0 ≤ at_) (h1 : at_ ≤ 100000) : plg s [] 4 at_ = (s, [⟨4, at_⟩], 0) := by
  have hv : vd s [] = true := by unfold vd asc; simp; omega
  unfold plg
  rw [if_pos hv, if_neg (by omega)]
  rfl
theorem vd_one (s at_ : Int) (hs : 0 ≤ s) (hs2 : s ≤ 4096) (h0 : 0 ≤ at_) (h1 : at_ ≤ 100000) : vd s [⟨4, at_⟩] = true := by
  unfold vd asc asc
  simp only [List.length_singleton, Bool.and_true, Bool.and_eq_true, decide_eq_true_eq]
  omega
theorem upl_one (s at_ : Int) (hs : 0 ≤ s) (hs2 : s ≤ 4096) (h0 : 0 ≤ at_) (h1 : at_ ≤ 100000) : upl s [⟨4, at_⟩] 4 = (s, [], 0) := by
  unfold upl
  have hp : place [⟨4, at_⟩] 4 = 0 := by simp [place, bsISg, cmp3]
  have hf : found [⟨4, at_⟩] 4 = true := by simp [found, hp, cmp3]
  rw [if_pos (vd_one s at_ hs hs2 h0 h1), hf, hp]
  rfl
theorem rdy_one (s at_ t : Int) (hs : 0 ≤ s) (hs2 : s ≤ 4096) (h0 : 0 ≤ at_) (h1 : at_ ≤ 100000) (h2 : 0 ≤ t) (h3 : t ≤ 100000) : (rdy s [⟨4, at_⟩] t).length = if at_ + s ≤ t then 1 else 0 := by
  unfold rdy
  rw [if_pos ⟨vd_one s at_ hs hs2 h0 h1, h2, by omega⟩, w64 (n := t - s) (by omega) (by omega), List.filter_cons]
  by_cases h : at_ + s ≤ t
  · rw [if_pos (by simp; omega), if_pos h]; rfl
  · rw [if_neg (by simp; omega), if_neg h]; rfl
theorem rdy_nil (s t : Int) : rdy s [] t = [] := by unfold rdy; split <;> rfl
theorem settles_j1 (s a st ag : Int) (k : Nat) (hk : 14 ≤ k) (hs : 0 ≤ s ∧ s < 6) (ha : 0 ≤ a ∧ a < 20) (hst : 0 ≤ st ∧ st < 9) (hag : 0 ≤ ag ∧ ag < 5) : soundservicelaw33_PlugSettles.j1 k s a st ag false s [] = some true := by
  obtain ⟨k, rfl⟩ : ∃ m, k = m + 1 := ⟨k - 1, by omega⟩
  rw [soundservicelaw33_PlugSettles.j1, if_neg (by simp), w64 (n := a + st) (by omega) (by omega), w64 (n := a + st + ag) (by omega) (by omega), w64 (n := a + st + ag + s) (by omega) (by omega), plug_f k (by omega), plg_nil s _ (by omega) (by omega) (by omega) (by omega)]
  simp only [Option.bind_some]
  rw [if_pos trivial, ready_f k (by omega), ready_f k (by omega)]
  simp only [Option.bind_some]
  rw [rdy_one s _ _ (by omega) (by omega) (by omega) (by omega) (by omega) (by omega), rdy_one s _ _ (by omega) (by omega) (by omega) (by omega) (by omega) (by omega)]
  by_cases h : s = 0
  · subst h; simp
  · rw [if_neg (show ¬ (a + st + ag + s ≤ a + st + ag) by omega), if_pos (show a + st + ag + s ≤ a + st + ag + s by omega)]
    simp [h]
theorem settles_l0 (s a st ag : Int) (hs : 0 ≤ s ∧ s < 6) (ha : 0 ≤ a ∧ a < 20) (hst : 0 ≤ st ∧ st < 9) (hag : 0 ≤ ag ∧ ag < 5) (d : Nat) : ∀ (k : Nat) (t : Int), a ≤ t → t + d = a + st + 1 → d + 20 < k →
    soundservicelaw33_PlugSettles.l0 k s a st ag t s [⟨4, a⟩] = some true := by
  induction d with
  | zero =>
    intro k t h0 h1 hk
    obtain ⟨k, rfl⟩ : ∃ m, k = m + 1 := ⟨k - 1, by omega⟩
    rw [soundservicelaw33_PlugSettles.l0, w64 (n := a + st) (by omega) (by omega), if_neg (by omega), unplug_f k (by omega), upl_one s a (by omega) (by omega) (by omega) (by omega)]
    simp only [Option.bind_some]
    rw [if_pos trivial, ready_f k (by omega), rdy_nil]
    exact settles_j1 s a st ag k (by omega) hs ha hst hag
  | succ d ih =>
    intro k t h0 h1 hk
    obtain ⟨k, rfl⟩ : ∃ m, k = m + 1 := ⟨k - 1, by omega⟩
    rw [soundservicelaw33_PlugSettles.l0, w64 (n := a + st) (by omega) (by omega), if_pos (by omega), ready_f k (by omega)]
    simp only [Option.bind_some]
    rw [rdy_one s a t (by omega) (by omega) (by omega) (by omega) (by omega) (by omega), w64 (n := a + s) (by omega) (by omega), w64 (n := t + 1) (by omega) (by omega), ih k (t + 1) (by omega) (by omega) (by omega)]
    by_cases h : a + s ≤ t
    · simp [h]
    · simp [h]
theorem PlugSettles : soundservicelaw33_PlugSettles.Pure := by
  intro a0 a1 a2 a3 h0 h1 h2 h3
  have b0 : 0 ≤ a0 % 6 ∧ a0 % 6 < 6 := ⟨Int.emod_nonneg _ (by omega), Int.emod_lt_of_pos _ (by omega)⟩
  have b1 : 0 ≤ a1 % 20 ∧ a1 % 20 < 20 := ⟨Int.emod_nonneg _ (by omega), Int.emod_lt_of_pos _ (by omega)⟩
  have b2 : 0 ≤ a2 % 9 ∧ a2 % 9 < 9 := ⟨Int.emod_nonneg _ (by omega), Int.emod_lt_of_pos _ (by omega)⟩
  have b3 : 0 ≤ a3 % 5 ∧ a3 % 5 < 5 := ⟨Int.emod_nonneg _ (by omega), Int.emod_lt_of_pos _ (by omega)⟩
  refine ⟨60, ?_⟩
  unfold soundservicelaw33_PlugSettles.f
  rw [sane_f _ (by omega), mod_f a0 6 (by omega) (by omega), mod_f a1 20 (by omega) (by omega), mod_f a2 9 (by omega) (by omega), mod_f a3 5 (by omega) (by omega)]
  simp only [Option.bind_some, if_true]
  rw [plug_f _ (by omega), plg_nil _ _ (by omega) (by omega) (by omega) (by omega)]
  simp only [Option.bind_some]
  rw [if_pos trivial]
  exact settles_l0 (a0 % 6) (a1 % 20) (a2 % 9) (a3 % 5) b0 b1 b2 b3 ((a2 % 9) + 1).toNat 60 (a1 % 20) (by omega) (by omega) (by omega)
end Go.Proofs.Ytobcpkeapjflhaa.Pure
