/- What the functions of the package cost tell, as plain functions. -/
import Derived.Test.YtobcpkeapjflhaaQx3
namespace Go.Proofs.Ytobcpkeapjflhaa.CostL
open Go.RowKit Go.Proofs.Ytobcpkeapjflhaa.Q Go.Proofs.YtobcpkeapjflhaaW.PrintWords Go.Proofs.YtobcpkeapjflhaaW.PrintLast Go.Proofs.YtobcpkeapjflhaaW.PrintMore
set_option linter.unusedVariables false
set_option linter.unusedSimpArgs false
theorem mn_comm (a b : Int) : mn a b = mn b a := by unfold mn; split <;> split <;> omega
theorem w64 {n : Int} (h0 : -9223372036854775808 ≤ n) (h1 : n ≤ 9223372036854775807) : wrap64 n = n := by unfold wrap64; omega
theorem within1 (k : Nat) (lo hi a : Int) : cost_within.f (k + 2) lo hi [a] = some (decide (lo ≤ a ∧ a ≤ hi)) := by
  have r0 : rd [a] 0 = a := rfl
  have w1 : wrap64 (0 + 1) = 1 := by decide +kernel
  simp only [cost_within.f, cost_within.l0, List.length_cons, List.length_nil, r0, w1]
  by_cases h1 : a < lo
  · have : ¬ (lo ≤ a ∧ a ≤ hi) := by omega
    simp [h1, this]
  · by_cases h2 : a > hi
    · have : ¬ (lo ≤ a ∧ a ≤ hi) := by omega
      simp [h1, h2, this]
    · have : (lo ≤ a ∧ a ≤ hi) := by omega
      simp [h1, h2, this]
theorem within2 (k : Nat) (lo hi a b : Int) : cost_within.f (k + 3) lo hi [a, b] = some (decide (lo ≤ a ∧ a ≤ hi) && decide (lo ≤ b ∧ b ≤ hi)) := by
  have r0 : rd [a, b] 0 = a := rfl
  have r1 : rd [a, b] 1 = b := rfl
  have w1 : wrap64 (0 + 1) = 1 := by decide +kernel
  have w2 : wrap64 (1 + 1) = 2 := by decide +kernel
  simp only [cost_within.f, cost_within.l0, List.length_cons, List.length_nil, r0, r1, w1, w2]
  by_cases h1 : a < lo
  · have : ¬ (lo ≤ a ∧ a ≤ hi) := by omega
    simp [h1, this]
  · by_cases h2 : a > hi
    · have : ¬ (lo ≤ a ∧ a ≤ hi) := by omega
      simp [h1, h2, this]
    · have h3 : (lo ≤ a ∧ a ≤ hi) := by omega
      by_cases h4 : b < lo
      · have : ¬ (lo ≤ b ∧ b ≤ hi) := by omega
        simp [h1, h2, h3, h4, this]
      · by_cases h5 : b > hi
        · have : ¬ (lo ≤ b ∧ b ≤ hi) := by omega
          simp [h1, h2, h3, h4, h5, this]
        · have : (lo ≤ b ∧ b ≤ hi) := by omega
          simp [h1, h2, h3, h4, h5, this]
/-- What Share tells. -/
def share (a c : Int) : Int := if 0 ≤ a ∧ a ≤ 1099511627776 ∧ 1 ≤ c ∧ c ≤ 1099511627776 then (a * 100 + c - 1) / c else 0
theorem tdiv_pos {a c : Int} (ha : 0 ≤ a) (hc : 1 ≤ c) : wrap64 (Int.tdiv a c) = a / c ∨ 9223372036854775807 < a := by
  by_cases h : 9223372036854775807 < a
  · exact .inr h
  · left
    rw [Int.tdiv_eq_ediv_of_nonneg ha]
    have h1 : a / c ≤ a := Int.ediv_le_self _ ha
    have h0 : 0 ≤ a / c := Int.ediv_nonneg ha (by omega)
    exact w64 (by omega) (by omega)
theorem share_in (a c : Int) (h1 : 0 ≤ a) (h2 : a ≤ 1099511627776) (h3 : 1 ≤ c) (h4 : c ≤ 1099511627776) :
    wrap64 (Int.tdiv (wrap64 ((wrap64 ((wrap64 (a * 100)) + c)) - 1)) c) = (a * 100 + c - 1) / c := by
  rw [w64 (n := a * 100) (by omega) (by omega), w64 (n := a * 100 + c) (by omega) (by omega), w64 (n := a * 100 + c - 1) (by omega) (by omega)]
  rcases tdiv_pos (a := a * 100 + c - 1) (c := c) (by omega) h3 with h | h
  · exact h
  · omega
theorem share_f (k : Nat) (a c : Int) : cost_Share.f (k + 2) a c = some (share a c) := by
  unfold cost_Share.f share
  rw [within1, within1]
  simp only [Option.bind_some, decide_eq_true_eq]
  by_cases h1 : 0 ≤ a ∧ a ≤ 1099511627776
  · rw [if_pos h1]
    by_cases h2 : 1 ≤ c ∧ c ≤ 1099511627776
    · rw [if_pos h2, if_neg (by omega), if_pos ⟨h1.1, h1.2, h2.1, h2.2⟩, share_in a c h1.1 h1.2 h2.1 h2.2]
    · rw [if_neg h2, if_neg (by omega)]
  · rw [if_neg h1, if_neg (by omega)]
/-- What Total tells of a list, from a sum on. -/
def tot (s : Int) : List Int → Int
  | [] => s
  | x :: l => tot (mn (wrap64 (s + (mx 0 (mn x 1099511627776)))) 1099511627776) l
theorem total_l0 (l : List Int) (hl : l.length ≤ 4611686018427387904) (d : Nat) : ∀ (k i : Nat) (s : Int), i + d = l.length → d < k →
    cost_Total.l0 k s l (l.length : Int) (i : Int) = some (tot s (l.drop i)) := by
  induction d with
  | zero =>
    intro k i s h hk
    obtain ⟨k, rfl⟩ : ∃ m, k = m + 1 := ⟨k - 1, by omega⟩
    rw [cost_Total.l0, if_neg (by omega), List.drop_of_length_le (by omega)]; rfl
  | succ d ih =>
    intro k i s h hk
    obtain ⟨k, rfl⟩ : ∃ m, k = m + 1 := ⟨k - 1, by omega⟩
    have hi : i < l.length := by omega
    have hr : rd l (i : Int) = l[i] := by unfold rd; simp [hi]
    rw [cost_Total.l0, if_pos (by omega), if_pos (by omega), if_pos (by omega), w64 (n := (i : Int) + 1) (by omega) (by omega), hr]
    have := ih k (i + 1) (mn (wrap64 (s + (mx 0 (mn l[i] 1099511627776)))) 1099511627776) (by omega) (by omega)
    rw [Int.natCast_succ] at this
    rw [this, List.drop_eq_getElem_cons hi]; rfl
theorem total_f (l : List Int) (hl : l.length ≤ 4611686018427387904) (k : Nat) (hk : l.length < k) : cost_Total.f k l = some (tot 0 l) := by
  have := total_l0 l hl l.length k 0 0 (by omega) hk
  simpa [cost_Total.f] using this
theorem sane_f (k : Nat) : soundservicelaw24_sane.f (k + 3) = some true := by
  have e1 : cost_Stream.f (k + 3) 2 2 64 = some (1324, 0) := by
    unfold cost_Stream.f
    rw [within2, within1 (k + 1)]; decide +kernel
  have e2 : cost_Device.f (k + 3) 2 64 = some (1424, 0) := by
    unfold cost_Device.f
    rw [within1 (k + 1), within1 (k + 1)]; decide +kernel
  have e3 : cost_Total.f (k + 3) [1, 2] = some 3 := by
    rw [total_f [1, 2] (by simp) (k + 3) (by simp)]; decide +kernel
  have e4 : cost_Share.f (k + 3) 3 2 = some 150 := by
    rw [share_f (k + 1)]; decide +kernel
  unfold soundservicelaw24_sane.f
  rw [e1, e2, e3, e4]; rfl
theorem mod_f (a m : Int) (h0 : 1 ≤ m) (h1 : m ≤ 4611686018427387904) : soundservicemill_Mod.f a m = some (a % m) := by
  have h3 : Int.tmod a m = a % m ∨ (Int.tmod a m = a % m - m ∧ a < 0) := by
    rcases Int.lt_or_le a 0 with hn | hn
    · by_cases hd : a % m = 0
      · left; rw [hd]; exact Int.tmod_eq_zero_of_dvd (Int.dvd_of_emod_eq_zero hd)
      · right
        refine ⟨?_, hn⟩
        rw [Int.tmod_eq_emod]
        have hnd : ¬ m ∣ a := fun hd2 => hd (Int.emod_eq_zero_of_dvd hd2)
        rw [if_neg (by omega)]
        omega
    · left; exact Int.tmod_eq_emod_of_nonneg hn
  have h4 : 0 ≤ a % m := Int.emod_nonneg _ (by omega)
  have h5 : a % m < m := Int.emod_lt_of_pos _ (by omega)
  unfold soundservicemill_Mod.f
  rw [if_neg (by omega)]
  rcases h3 with e | ⟨e, hn⟩
  · rw [e, if_neg (by omega)]
  · rw [e]
    by_cases hd : a % m - m < 0
    · rw [if_pos hd, w64 (by omega) (by omega)]; congr 1; omega
    · omega
end Go.Proofs.Ytobcpkeapjflhaa.CostL
