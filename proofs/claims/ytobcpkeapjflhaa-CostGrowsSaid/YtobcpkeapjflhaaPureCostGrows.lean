/- Costs grow with each of their numbers, a sum is the same from back to front, and a share is at most 100 exactly if the cost is at most the capacity, for every input. -/
import Derived.Test.YtobcpkeapjflhaaQx3
import Derived.Test.YtobcpkeapjflhaaCostL
namespace Go.Proofs.Ytobcpkeapjflhaa.Pure
open Go.RowKit Go.Proofs.Ytobcpkeapjflhaa.Q Go.Proofs.YtobcpkeapjflhaaW.PrintWords Go.Proofs.YtobcpkeapjflhaaW.PrintLast Go.Proofs.YtobcpkeapjflhaaW.PrintMore
set_option linter.unusedVariables false
set_option linter.unusedSimpArgs false
open Go.Proofs.Ytobcpkeapjflhaa.CostL
/-- A list's clamped sum. -/
def csum : List Int → Int
  | [] => 0
  | x :: l => mx 0 (mn x 1099511627776) + csum l
theorem clamp_in (x : Int) : 0 ≤ mx 0 (mn x 1099511627776) ∧ mx 0 (mn x 1099511627776) ≤ 1099511627776 := by
  unfold mx mn; split <;> split <;> omega
theorem csum_pos (l : List Int) : 0 ≤ csum l := by
  induction l with
  | nil => exact Int.le_refl _
  | cons x l ih => have := clamp_in x; simp only [csum]; omega
theorem csum_append (a b : List Int) : csum (a ++ b) = csum a + csum b := by
  induction a with
  | nil => simp [csum]
  | cons x l ih => simp only [List.cons_append, csum, ih]; omega
theorem csum_reverse (l : List Int) : csum l.reverse = csum l := by
  induction l with
  | nil => rfl
  | cons x l ih => rw [List.reverse_cons, csum_append, ih]; simp only [csum]; omega
theorem tot_sum (l : List Int) : ∀ s, 0 ≤ s → s ≤ 1099511627776 → tot s l = mn (s + csum l) 1099511627776 := by
  induction l with
  | nil => intro s h0 h1; simp only [tot, csum]; unfold mn; split <;> omega
  | cons x l ih =>
    intro s h0 h1
    have hc := clamp_in x
    have hp := csum_pos l
    simp only [tot, csum]
    generalize mx 0 (mn x 1099511627776) = c at *
    rw [w64 (n := s + c) (by omega) (by omega), ih _ (by unfold mn; split <;> omega) (by unfold mn; split <;> omega)]
    generalize csum l = q at *
    unfold mn; split <;> split <;> split <;> omega
theorem tot_reverse (l : List Int) : tot 0 l.reverse = tot 0 l := by
  rw [tot_sum _ 0 (by omega) (by omega), tot_sum _ 0 (by omega) (by omega), csum_reverse]
theorem stream_f (k : Nat) (a b p : Int) (ha : 1 ≤ a ∧ a ≤ 8) (hb : 1 ≤ b ∧ b ≤ 8) (hp : 16 ≤ p ∧ p ≤ 8192) : cost_Stream.f (k + 3) a b p = some (300 + (4 * a + a * b + 2 * b) * p, 0) := by
  have hab : 0 ≤ a * b := Int.mul_nonneg (by omega) (by omega)
  have hab2 : a * b ≤ 8 * 8 := Int.mul_le_mul ha.2 hb.2 (by omega) (by omega)
  have hq : 0 ≤ (4 * a + a * b + 2 * b) * p := Int.mul_nonneg (by omega) (by omega)
  have hq2 : (4 * a + a * b + 2 * b) * p ≤ 200 * 8192 := Int.mul_le_mul (by omega) hp.2 (by omega) (by omega)
  unfold cost_Stream.f
  rw [within2, within1 (k + 1)]
  simp only [Option.bind_some, ha.1, ha.2, hb.1, hb.2, hp.1, hp.2, and_self, decide_true, Bool.and_self, if_true]
  rw [w64 (n := 4 * a) (by omega) (by omega), w64 (n := a * b) (by omega) (by omega), w64 (n := 4 * a + a * b) (by omega) (by omega), w64 (n := 2 * b) (by omega) (by omega), w64 (n := 4 * a + a * b + 2 * b) (by omega) (by omega), w64 (n := (4 * a + a * b + 2 * b) * p) (by omega) (by omega), w64 (n := 300 + (4 * a + a * b + 2 * b) * p) (by omega) (by omega)]
theorem device_f (k : Nat) (a p : Int) (ha : 1 ≤ a ∧ a ≤ 8) (hp : 16 ≤ p ∧ p ≤ 8192) : cost_Device.f (k + 3) a p = some (400 + (8 * a) * p, 0) := by
  have hq : 0 ≤ (8 * a) * p := Int.mul_nonneg (by omega) (by omega)
  have hq2 : (8 * a) * p ≤ 64 * 8192 := Int.mul_le_mul (by omega) hp.2 (by omega) (by omega)
  unfold cost_Device.f
  rw [within1 (k + 1), within1 (k + 1)]
  simp only [Option.bind_some, ha.1, ha.2, hp.1, hp.2, and_self, decide_true, if_true]
  rw [w64 (n := 8 * a) (by omega) (by omega), w64 (n := (8 * a) * p) (by omega) (by omega), w64 (n := 400 + (8 * a) * p) (by omega) (by omega)]
theorem share_le (c n : Int) (h0 : 0 ≤ c) (h1 : c ≤ 1099511627776) (h2 : 1 ≤ n) (h3 : n ≤ 1099511627776) : (share c n ≤ 100) ↔ c ≤ n := by
  unfold share
  rw [if_pos ⟨h0, h1, h2, h3⟩]
  constructor
  · intro h
    have : (c * 100 + n - 1) / n < 101 := by omega
    have := (Int.ediv_lt_iff_lt_mul (by omega : 0 < n)).mp this
    omega
  · intro h
    have : (c * 100 + n - 1) / n < 101 := (Int.ediv_lt_iff_lt_mul (by omega : 0 < n)).mpr (by omega)
    omega
theorem grows_l0 (l : List Int) (hl : l.length ≤ 100) (c n : Int) (hc : (Lit.int .i64 c).wf = true) (hn : (Lit.int .i64 n).wf = true) (d : Nat) : ∀ (k i : Nat), i + d = l.length → d + 200 < k →
    soundservicelaw24_CostGrows.l0 k l c n (l.reverse.take i) (l.length : Int) (i : Int) = some true := by
  induction d with
  | zero =>
    intro k i h hk
    obtain ⟨k, rfl⟩ : ∃ m, k = m + 1 := ⟨k - 1, by omega⟩
    have hm1 : 0 ≤ c % 100000 := Int.emod_nonneg _ (by omega)
    have hm2 : c % 100000 < 100000 := Int.emod_lt_of_pos _ (by omega)
    have hm3 : 0 ≤ n % 100000 := Int.emod_nonneg _ (by omega)
    have hm4 : n % 100000 < 100000 := Int.emod_lt_of_pos _ (by omega)
    rw [soundservicelaw24_CostGrows.l0, if_neg (by omega), mod_f c 100000 (by omega) (by omega), mod_f n 100000 (by omega) (by omega)]
    simp only [Option.bind_some]
    rw [List.take_of_length_le (by simp; omega), total_f l (by omega) k (by omega), total_f l.reverse (by simp; omega) k (by simp; omega), tot_reverse]
    simp only [Option.bind_some, if_true]
    rw [w64 (n := 1 + n % 100000) (by omega) (by omega)]
    obtain ⟨k, rfl⟩ : ∃ m, k = m + 2 := ⟨k - 2, by omega⟩
    rw [share_f k]
    simp only [Option.bind_some]
    have := share_le (c % 100000) (1 + n % 100000) hm1 (by omega) (by omega) (by omega)
    have hd : decide (share (c % 100000) (1 + n % 100000) ≤ 100) = decide (c % 100000 ≤ 1 + n % 100000) := decide_eq_decide.mpr this
    rw [hd]
    simp
  | succ d ih =>
    intro k i h hk
    obtain ⟨k, rfl⟩ : ∃ m, k = m + 1 := ⟨k - 1, by omega⟩
    have hi : i < l.length := by omega
    have hw1 : wrap64 ((l.length : Int) - 1) = (l.length : Int) - 1 := w64 (by omega) (by omega)
    have hw2 : wrap64 ((l.length : Int) - 1 - (i : Int)) = ((l.length - 1 - i : Nat) : Int) := by rw [w64 (by omega) (by omega)]; omega
    have hr : rd l ((l.length - 1 - i : Nat) : Int) = l.reverse[i]'(by simpa using hi) := by
      unfold rd
      rw [List.getElem_reverse]
      simp [List.getD_eq_getElem?_getD, List.getElem?_eq_getElem (show l.length - 1 - i < l.length by omega)]
    rw [soundservicelaw24_CostGrows.l0, if_pos (by omega), hw1, hw2, if_pos (by omega), if_pos (by omega), if_pos (by rw [List.length_take]; omega), w64 (n := (i : Int) + 1) (by omega) (by omega), hr]
    have := ih k (i + 1) (by omega) (by omega)
    rw [Int.natCast_succ, List.take_succ_eq_append_getElem (by simpa using hi)] at this
    exact this
theorem CostGrows : soundservicelaw24_CostGrows.Pure := by
  intro a0 a1 a2 l c n h0 h1 h2 hm hl hw h4 h5
  refine ⟨l.length + 400, ?_⟩
  unfold soundservicelaw24_CostGrows.f
  rw [sane_f (l.length + 397)]
  simp only [Option.bind_some, if_true]
  by_cases hlen : (l.length : Int) > 100
  · rw [if_pos hlen]
  · rw [if_neg hlen, mod_f a0 7 (by omega) (by omega), mod_f a1 7 (by omega) (by omega), mod_f a2 1000 (by omega) (by omega)]
    simp only [Option.bind_some]
    have b0 : 0 ≤ a0 % 7 := Int.emod_nonneg _ (by omega)
    have b1 : a0 % 7 < 7 := Int.emod_lt_of_pos _ (by omega)
    have b2 : 0 ≤ a1 % 7 := Int.emod_nonneg _ (by omega)
    have b3 : a1 % 7 < 7 := Int.emod_lt_of_pos _ (by omega)
    have b4 : 0 ≤ a2 % 1000 := Int.emod_nonneg _ (by omega)
    have b5 : a2 % 1000 < 1000 := Int.emod_lt_of_pos _ (by omega)
    generalize a0 % 7 = x at *
    generalize a1 % 7 = y at *
    generalize a2 % 1000 = p at *
    rw [w64 (n := 1 + x) (by omega) (by omega), w64 (n := 1 + y) (by omega) (by omega), w64 (n := 16 + p) (by omega) (by omega), w64 (n := 1 + x + 1) (by omega) (by omega), w64 (n := 1 + y + 1) (by omega) (by omega), w64 (n := 16 + p + 1) (by omega) (by omega)]
    rw [stream_f (l.length + 397) (1 + x) (1 + y) (16 + p) (by omega) (by omega) (by omega), stream_f (l.length + 397) (1 + x + 1) (1 + y) (16 + p) (by omega) (by omega) (by omega), stream_f (l.length + 397) (1 + x) (1 + y + 1) (16 + p) (by omega) (by omega) (by omega), stream_f (l.length + 397) (1 + x) (1 + y) (16 + p + 1) (by omega) (by omega) (by omega), device_f (l.length + 397) (1 + x) (16 + p) (by omega) (by omega), device_f (l.length + 397) (1 + x + 1) (16 + p) (by omega) (by omega), device_f (l.length + 397) (1 + x) (16 + p + 1) (by omega) (by omega)]
    simp only [Option.bind_some]
    obtain ⟨X, hX⟩ : ∃ X, X = 1 + x := ⟨_, rfl⟩
    obtain ⟨Y, hY⟩ : ∃ Y, Y = 1 + y := ⟨_, rfl⟩
    obtain ⟨Q, hQ⟩ : ∃ Q, Q = 16 + p := ⟨_, rfl⟩
    rw [← hX, ← hY, ← hQ]
    have hx1 : 1 ≤ X := by omega
    have hy1 : 1 ≤ Y := by omega
    have hq1 : 16 ≤ Q := by omega
    have hxy : 0 ≤ X * Y := Int.mul_nonneg (by omega) (by omega)
    have hb : 1 ≤ 4 * X + X * Y + 2 * Y := by omega
    have g0 : 0 ≤ (4 * X + X * Y + 2 * Y) * Q := Int.mul_nonneg (by omega) (by omega)
    have e1 : (4 * (X + 1) + (X + 1) * Y + 2 * Y) * Q = (4 * X + X * Y + 2 * Y) * Q + (4 + Y) * Q := by
      rw [← Int.add_mul]; congr 1; rw [Int.add_mul X 1 Y]; omega
    have e2 : (4 * X + X * (Y + 1) + 2 * (Y + 1)) * Q = (4 * X + X * Y + 2 * Y) * Q + (X + 2) * Q := by
      rw [← Int.add_mul]; congr 1; rw [Int.mul_add X Y 1]; omega
    have e3 : (4 * X + X * Y + 2 * Y) * (Q + 1) = (4 * X + X * Y + 2 * Y) * Q + (4 * X + X * Y + 2 * Y) := by
      rw [Int.mul_add, Int.mul_one]
    have g1 : 0 < (4 + Y) * Q := Int.mul_pos (by omega) (by omega)
    have g2 : 0 < (X + 2) * Q := Int.mul_pos (by omega) (by omega)
    have e4 : 8 * (X + 1) * Q = 8 * X * Q + 8 * Q := by rw [← Int.add_mul]; congr 1; omega
    have e5 : 8 * X * (Q + 1) = 8 * X * Q + 8 * X := by rw [Int.mul_add, Int.mul_one]
    have g3 : 0 ≤ 8 * X * Q := Int.mul_nonneg (by omega) (by omega)
    rw [if_neg (by omega), if_neg (by omega), if_neg (by omega), if_neg (by omega), if_neg (by omega), if_neg (by omega)]
    rw [show decide (400 + 8 * X * (Q + 1) ≤ 400 + 8 * X * Q) = false from decide_eq_false (by omega)]
    rw [show l.length + 400 = (l.length + 399) + 1 from rfl, soundservicelaw24_CostGrows.j0, if_neg (by simp)]
    have := grows_l0 l (by omega) c n h4 h5 l.length (l.length + 399) 0 (by omega) (by omega)
    simpa using this
end Go.Proofs.Ytobcpkeapjflhaa.Pure
