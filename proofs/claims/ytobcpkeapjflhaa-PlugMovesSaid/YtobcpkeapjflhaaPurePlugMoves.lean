/- How a move begins, goes on, and where the stream is heard, is what the reference says, for every input. -/
import Derived.Test.YtobcpkeapjflhaaQrPlugMoves
import Derived.Test.YtobcpkeapjflhaaPlugL1
namespace Go.Proofs.Ytobcpkeapjflhaa.Pure
open Go.RowKit Go.Proofs.Ytobcpkeapjflhaa.Q Go.Proofs.YtobcpkeapjflhaaW.PrintWords Go.Proofs.YtobcpkeapjflhaaW.PrintLast Go.Proofs.YtobcpkeapjflhaaW.PrintMore
set_option linter.unusedVariables false
set_option linter.unusedSimpArgs false
open Go.Proofs.Ytobcpkeapjflhaa.PlugL
theorem ref_begin_f (s f t n : Int) : soundserviceref33_Begin.f s f t n = some (bg s f t n) := by
  unfold soundserviceref33_Begin.f bg fd
  by_cases h1 : f = 0 <;> by_cases h2 : t = 0 <;> by_cases h3 : 1 ≤ n ∧ n ≤ 4096 <;> simp [h1, h2, h3]
theorem ref_adv_f (k : Nat) (s f t p l n : Int) (hl : l ≤ 9223372036854775807) : soundserviceref33_Advance.f (k + 1) s f t p l n = some (av s f t p l n) := by
  have hfd : ∀ n, soundserviceref33_fades.f n = some (fd n) := ref33_fades_f
  unfold soundserviceref33_Advance.f av
  simp only [soundserviceref33_Advance.j0, hfd, Option.bind_some]
  by_cases h2 : l < 1
  · have : ¬ (1 ≤ l) := by omega
    by_cases h1 : p = 1
    · simp [h1, h2, this]
    · by_cases h1' : p = 2 <;> simp [h1, h1', h2, this]
  · have h2' : 1 ≤ l := by omega
    have hw : wrap64 (l - 1) = l - 1 := w64 (by omega) (by omega)
    rw [hw]
    by_cases h4 : l - 1 > 0
    · have h5 : ¬ (l - 1 = 0) := by omega
      have h6 : 1 < l := by omega
      have h7 : ¬ l ≤ 1 := by omega
      by_cases h1 : p = 1
      · cases h3 : fd n <;> simp [h1, h2, h2', h4, h5, h6, h7]
      · by_cases h1' : p = 2
        · cases h3 : fd n <;> simp [h1', h2, h2', h4, h5, h6, h7]
        · simp [h1, h1']
    · have h5 : l - 1 = 0 := by omega
      by_cases h1 : p = 1
      · by_cases h6 : t = 0 <;> cases h3 : fd n <;> simp [h1, h2, h2', h5, h6]
      · by_cases h1' : p = 2
        · cases h3 : fd n <;> simp [h1', h2, h2', h5]
        · simp [h1, h1']
theorem wanted_some (s f t p l : Int) : ∃ q, plug_Wanted.f s f t p l = some q ∧ soundserviceref33_Wanted.f s f t p l = some q := by
  unfold plug_Wanted.f soundserviceref33_Wanted.f
  by_cases h1 : p = 1
  · exact ⟨(f, false), by rw [if_pos h1], by rw [if_pos h1]⟩
  · by_cases h2 : p = 2
    · exact ⟨(t, true), by rw [if_neg h1, if_pos h2], by rw [if_neg h1, if_pos h2]⟩
    · by_cases h3 : p = 3
      · exact ⟨(t, true), by rw [if_neg h1, if_neg h2, if_pos h3], by rw [if_neg h1, if_neg h2, if_pos h3]⟩
      · exact ⟨(0, false), by rw [if_neg h1, if_neg h2, if_neg h3], by rw [if_neg h1, if_neg h2, if_neg h3]⟩
theorem moves_step (k : Nat) (x1 x2 x3 x15 x40 x41 : Int) (x39 : List Int) (L : List S37) (j : Nat) (hj : j < L.length) (hjl : L.length ≤ 4) (hl : (rd_T37 L (j : Int)).f4 ≤ 9223372036854775807) (a b c d e a' b' c' d' e' : Int) :
    soundservicelaw33_PlugMoves.l1 (k + 2) x1 x2 x3 x15 x39 x40 x41 L (L.length : Int) (j : Int) a b c d e a' b' c' d' e' = soundservicelaw33_PlugMoves.l1 (k + 1) x1 x2 x3 x15 x39 x40 x41 L (L.length : Int) ((j : Int) + 1) a b c d e a' b' c' d' e' := by
  obtain ⟨q, hq1, hq2⟩ := wanted_some (rd_T37 L (j : Int)).f0 (rd_T37 L (j : Int)).f1 (rd_T37 L (j : Int)).f2 (rd_T37 L (j : Int)).f3 (rd_T37 L (j : Int)).f4
  rw [soundservicelaw33_PlugMoves.l1, if_pos (by omega), if_pos (by omega), if_pos (by omega), advance_f k, ref_adv_f k _ _ _ _ _ _ hl, hq1, hq2, w64 (n := (j : Int) + 1) (by omega) (by omega)]
  simp
theorem moves_end (k : Nat) (x1 x2 x3 x15 x40 : Int) (x39 : List Int) (L : List S37) (i : Nat) (hi : i ≤ 4) (a b c d e a' b' c' d' e' : Int) :
    soundservicelaw33_PlugMoves.l1 (k + 2) x1 x2 x3 x15 x39 x40 (i : Int) L (L.length : Int) (L.length : Int) a b c d e a' b' c' d' e' = soundservicelaw33_PlugMoves.l0 (k + 1) x1 x2 x3 x39 x40 ((i + 1 : Nat) : Int) a b c d e a' b' c' d' e' := by
  rw [soundservicelaw33_PlugMoves.l1, if_neg (by omega), begin_f k, ref_begin_f, begin_f k, ref_begin_f, w64 (n := (i : Int) + 1) (by omega) (by omega)]
  simp
theorem moves_round (k : Nat) (x1 x2 x3 : Int) (x39 : List Int) (i : Nat) (hi : i < x39.length) (hi2 : x39.length ≤ 4) (a b c d e a' b' c' d' e' : Int) (he : e ≤ 9223372036854775807) (he' : e' ≤ 9223372036854775807) :
    soundservicelaw33_PlugMoves.l0 (k + 5) x1 x2 x3 x39 (x39.length : Int) (i : Int) a b c d e a' b' c' d' e' = soundservicelaw33_PlugMoves.l0 (k + 1) x1 x2 x3 x39 (x39.length : Int) ((i + 1 : Nat) : Int) a b c d e a' b' c' d' e' := by
  rw [soundservicelaw33_PlugMoves.l0, if_pos (by omega), if_pos (by omega), if_pos (by omega)]
  simp only [Option.bind_some]
  have h0 := moves_step (k + 2) x1 x2 x3 (rd x39 (i : Int)) (x39.length : Int) (i : Int) x39 [⟨a, b, c, d, e⟩, ⟨a', b', c', d', e'⟩] 0 (by simp) (by simp) he a b c d e a' b' c' d' e'
  have h1 := moves_step (k + 1) x1 x2 x3 (rd x39 (i : Int)) (x39.length : Int) (i : Int) x39 [⟨a, b, c, d, e⟩, ⟨a', b', c', d', e'⟩] 1 (by simp) (by simp) he' a b c d e a' b' c' d' e'
  have h2 := moves_end k x1 x2 x3 (rd x39 (i : Int)) (x39.length : Int) x39 [⟨a, b, c, d, e⟩, ⟨a', b', c', d', e'⟩] i (by omega) a b c d e a' b' c' d' e'
  exact h0.trans (h1.trans h2)
theorem PlugMoves : soundservicelaw33_PlugMoves.Pure := by
  intro a b c d e a1 a2 a3 a4 a5 _ _ _ _ he _ _ _ _ _
  have hb := wf_i64 he
  refine ⟨20, ?_⟩
  unfold soundservicelaw33_PlugMoves.f
  rw [sane_f _ (by omega), mod_f a5 5 (by omega) (by omega), mod_f _ 4 (by omega) (by omega), mod_f a4 5 (by omega) (by omega)]
  simp only [Option.bind_some, if_true]
  have hm : wrap64 (Int.tdiv a5 5) % 4 < 4 := Int.emod_lt_of_pos _ (by omega)
  generalize wrap64 (Int.tdiv a5 5) % 4 = m at *
  generalize hL : [a4, wrap64 (1 + a4 % 5)] = L
  have hl : L.length = 2 := by rw [← hL]; rfl
  have r0 := moves_round 15 a1 a2 a3 L 0 (by omega) (by omega) a b c d e a1 (Int.tmod a2 3) (Int.tmod a3 3) (a5 % 5) m hb.2 (by omega)
  have r1 := moves_round 11 a1 a2 a3 L 1 (by omega) (by omega) a b c d e a1 (Int.tmod a2 3) (Int.tmod a3 3) (a5 % 5) m hb.2 (by omega)
  refine r0.trans (r1.trans ?_)
  rw [soundservicelaw33_PlugMoves.l0, if_neg (by rw [hl]; decide)]
end Go.Proofs.Ytobcpkeapjflhaa.Pure
