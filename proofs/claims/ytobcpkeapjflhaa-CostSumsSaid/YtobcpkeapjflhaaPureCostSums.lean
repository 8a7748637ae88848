/- The sums of costs and their shares are those of the reference, for every list and every two numbers. -/
import Derived.Test.YtobcpkeapjflhaaQx3
import Derived.Test.YtobcpkeapjflhaaCostL
namespace Go.Proofs.Ytobcpkeapjflhaa.Pure
open Go.RowKit Go.Proofs.Ytobcpkeapjflhaa.Q Go.Proofs.YtobcpkeapjflhaaW.PrintWords Go.Proofs.YtobcpkeapjflhaaW.PrintLast Go.Proofs.YtobcpkeapjflhaaW.PrintMore
set_option linter.unusedVariables false
set_option linter.unusedSimpArgs false
open Go.Proofs.Ytobcpkeapjflhaa.CostL
theorem ref_total_l0 (l : List Int) (hl : l.length ≤ 4611686018427387904) (d : Nat) : ∀ (k i : Nat) (s : Int), i + d = l.length → d < k →
    soundserviceref24_Total.l0 k l s (i : Int) = some (tot s (l.drop i)) := by
  induction d with
  | zero =>
    intro k i s h hk
    obtain ⟨k, rfl⟩ : ∃ m, k = m + 1 := ⟨k - 1, by omega⟩
    rw [soundserviceref24_Total.l0, if_neg (by omega), List.drop_of_length_le (by omega)]; rfl
  | succ d ih =>
    intro k i s h hk
    obtain ⟨k, rfl⟩ : ∃ m, k = m + 1 := ⟨k - 1, by omega⟩
    have hi : i < l.length := by omega
    have hr : rd l (i : Int) = l[i] := by unfold rd; simp [hi]
    rw [soundserviceref24_Total.l0, if_pos (by omega), if_pos (by omega), w64 (n := (i : Int) + 1) (by omega) (by omega), hr, mn_comm]
    have := ih k (i + 1) (mn (wrap64 (s + (mx 0 (mn l[i] 1099511627776)))) 1099511627776) (by omega) (by omega)
    rw [Int.natCast_succ] at this
    rw [this, List.drop_eq_getElem_cons hi]; rfl
theorem ref_total_f (l : List Int) (hl : l.length ≤ 4611686018427387904) (k : Nat) (hk : l.length < k) : soundserviceref24_Total.f k l = some (tot 0 l) := by
  have := ref_total_l0 l hl l.length k 0 0 (by omega) hk
  simpa [soundserviceref24_Total.f] using this
theorem ref_share_f (a c : Int) : soundserviceref24_Share.f a c = some (share a c) := by
  unfold soundserviceref24_Share.f share
  by_cases h1 : a < 0
  · rw [if_pos h1, if_neg (by omega)]
  · rw [if_neg h1]
    by_cases h2 : a > 1099511627776
    · rw [if_pos h2, if_neg (by omega)]
    · rw [if_neg h2]
      by_cases h3 : c < 1
      · rw [if_pos h3, if_neg (by omega)]
      · rw [if_neg h3]
        by_cases h4 : c > 1099511627776
        · rw [if_pos h4, if_neg (by omega)]
        · rw [if_neg h4, if_neg (by omega), if_pos ⟨by omega, by omega, by omega, by omega⟩, share_in a c (by omega) (by omega) (by omega) (by omega)]
theorem CostSums : soundservicelaw24_CostSums.Pure := by
  intro l a1 a2 hm hl hw h1 h2
  refine ⟨l.length + 3, ?_⟩
  have hl' : l.length ≤ 4611686018427387904 := by omega
  unfold soundservicelaw24_CostSums.f
  rw [sane_f l.length]
  simp only [Option.bind_some, if_true]
  by_cases hlen : (l.length : Int) > 100
  · rw [if_pos hlen]
  · rw [if_neg hlen, total_f l hl' _ (by omega), ref_total_f l hl' _ (by omega)]
    simp only [Option.bind_some, if_true]
    rw [share_f (l.length + 1), ref_share_f]
    simp only [Option.bind_some, if_true]
    rw [mod_f a1 5000 (by omega) (by omega), mod_f a2 5000 (by omega) (by omega)]
    simp only [Option.bind_some]
    rw [share_f (l.length + 1), ref_share_f]
    simp
end Go.Proofs.Ytobcpkeapjflhaa.Pure
