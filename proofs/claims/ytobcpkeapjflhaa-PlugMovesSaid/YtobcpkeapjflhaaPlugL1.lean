/- What moves tell, as plain functions; small laws. -/
import Derived.Test.YtobcpkeapjflhaaQx3
import Derived.Test.YtobcpkeapjflhaaQx4
import Derived.Test.YtobcpkeapjflhaaQx5
namespace Go.Proofs.Ytobcpkeapjflhaa.PlugL
open Go.RowKit Go.Proofs.Ytobcpkeapjflhaa.Q Go.Proofs.YtobcpkeapjflhaaW.PrintWords Go.Proofs.YtobcpkeapjflhaaW.PrintLast Go.Proofs.YtobcpkeapjflhaaW.PrintMore
set_option linter.unusedVariables false
set_option linter.unusedSimpArgs false
theorem w64 {n : Int} (h0 : -9223372036854775808 ≤ n) (h1 : n ≤ 9223372036854775807) : wrap64 n = n := by unfold wrap64; omega
theorem u64 {n : Int} (h0 : 0 ≤ n) (h1 : n ≤ 18446744073709551615) : IntKind.u64.wrap n = n := by
  have : IntKind.u64.wrap n = n % 18446744073709551616 := by simp [IntKind.wrap, IntKind.bits, IntKind.signed]
  rw [this]; omega
theorem wf_i64 {n : Int} (h : (Lit.int .i64 n).wf = true) : -9223372036854775808 ≤ n ∧ n ≤ 9223372036854775807 := by
  simpa [Lit.wf, IntKind.min, IntKind.max, IntKind.bits, IntKind.signed] using h
theorem wf_u64 {n : Int} (h : (Lit.int .u64 n).wf = true) : 0 ≤ n ∧ n ≤ 18446744073709551615 := by
  simpa [Lit.wf, IntKind.min, IntKind.max, IntKind.bits, IntKind.signed] using h
theorem sane_f (k : Nat) (hk : 12 ≤ k) : soundservicelaw33_sane.f k = some true :=
  at_rounds (g := fun k => soundservicelaw33_sane.f k) (fun k => soundservicelaw33_sane.mono k) hk (by decide +kernel)
theorem mod_f (a m : Int) (h0 : 1 ≤ m) (h1 : m ≤ 4611686018427387904) : soundservicemill_Mod.f a m = some (a % m) := by
  have h3 : Int.tmod a m = a % m ∨ (Int.tmod a m = a % m - m ∧ a < 0) := by
    rcases Int.lt_or_le a 0 with hn | hn
    · by_cases hd : a % m = 0
      · left; rw [hd]; exact Int.tmod_eq_zero_of_dvd (Int.dvd_of_emod_eq_zero hd)
      · right
        refine ⟨?_, hn⟩
        rw [Int.tmod_eq_emod]
        have hnd : ¬ m ∣ a := fun hd2 => hd (Int.emod_eq_zero_of_dvd hd2)
        rw [if_neg (by omega)]
        omega
    · left; exact Int.tmod_eq_emod_of_nonneg hn
  have h4 : 0 ≤ a % m := Int.emod_nonneg _ (by omega)
  have h5 : a % m < m := Int.emod_lt_of_pos _ (by omega)
  unfold soundservicemill_Mod.f
  rw [if_neg (by omega)]
  rcases h3 with e | ⟨e, hn⟩
  · rw [e, if_neg (by omega)]
  · rw [e]
    by_cases hd : a % m - m < 0
    · rw [if_pos hd, w64 (by omega) (by omega)]; congr 1; omega
    · omega
def fd (n : Int) : Bool := decide (1 ≤ n ∧ n ≤ 4096)
theorem fades_f (n : Int) : plug_fades.f n = some (fd n) := by
  unfold plug_fades.f fd
  by_cases h : n ≥ 1
  · rw [if_pos h]; congr 1; simp; omega
  · rw [if_neg h]; congr 1; simp; omega
/-- How a move begins. -/
def bg (s f t n : Int) : Int × Int × Int × Int × Int := if fd n = true ∧ ¬ (f = 0 ∧ t = 0) then (s, f, t, (if f = 0 then 2 else 1), n) else (s, f, t, 3, 0)
theorem begin_f (k : Nat) (s f t n : Int) : plug_Begin.f (k + 1) s f t n = some (bg s f t n) := by
  unfold plug_Begin.f bg
  simp only [plug_Begin.j0, fades_f, plug_over.f, Option.bind_some]
  by_cases h1 : f = 0 <;> by_cases h2 : t = 0 <;> cases h3 : fd n <;> simp [h1, h2, h3]
/-- How a move goes on. -/
def av (s f t p l n : Int) : Int × Int × Int × Int × Int :=
  if (p = 1 ∨ p = 2) ∧ 1 ≤ l ∧ fd n = true then (if wrap64 (l - 1) > 0 then (s, f, t, p, wrap64 (l - 1)) else if p = 1 ∧ t ≠ 0 then (s, f, t, 2, n) else (s, f, t, 3, 0)) else (s, f, t, 3, 0)
theorem advance_f (k : Nat) (s f t p l n : Int) : plug_Advance.f (k + 1) s f t p l n = some (av s f t p l n) := by
  unfold plug_Advance.f av
  simp only [plug_Advance.j0, fades_f, plug_over.f, Option.bind_some]
  by_cases h1 : p = 1
  · by_cases h2 : l < 1
    · have : ¬ (1 ≤ l) := by omega
      simp [h1, h2, this]
    · have h2' : 1 ≤ l := by omega
      cases h3 : fd n <;> by_cases h4 : wrap64 (l - 1) > 0 <;> by_cases h5 : t = 0 <;> simp [h1, h2, h2', h4, h5]
  · by_cases h1' : p = 2
    · by_cases h2 : l < 1
      · have : ¬ (1 ≤ l) := by omega
        simp [h1', h2, this]
      · have h2' : 1 ≤ l := by omega
        cases h3 : fd n <;> by_cases h4 : wrap64 (l - 1) > 0 <;> simp [h1', h2, h2', h4]
    · simp [h1, h1']
end Go.Proofs.Ytobcpkeapjflhaa.PlugL
