/- ChannelsTexts answers true: Parse and Format tell what the reference's tell, for every text and every list within the statement's guards. -/
import Derived.Test.YtglikjpnlgciiaaDoorQx4
import Derived.Test.YtglikjpnlgciiaaDoorChL2
namespace Go.Proofs.YtglikjpnlgciiaaDoor.Pure
open Go Go.RowKit Go.Proofs.YtglikjpnlgciiaaDoor.Q Go.Proofs.YtglikjpnlgciiaaDoor.L Go.Proofs.YtglikjpnlgciiaaDoorW.PrintWords Go.Proofs.YtglikjpnlgciiaaDoorW.PrintLast
theorem sane_at : soundservicelaw06_sane.f 30 = some true := by decide +kernel
theorem sane_k (k : Nat) (hk : 30 ≤ k) : soundservicelaw06_sane.f k = some true := at_rounds soundservicelaw06_sane.mono hk sane_at
theorem ChannelsTexts : soundservicelaw06_ChannelsTexts.Pure := by
  intro s m hs hm hm2 hw
  obtain ⟨k, hk⟩ : ∃ k, 23000040 ≤ k := ⟨23000040, Nat.le_refl _⟩
  refine ⟨k + 1, ?_⟩
  unfold soundservicelaw06_ChannelsTexts.f
  rw [sane_k (k + 1) (by omega), Option.bind_some, if_pos rfl]
  by_cases h1 : (s.size : Int) > 300
  · rw [if_pos h1, soundservicelaw06_ChannelsTexts.j0, if_pos rfl]
  · rw [if_neg h1, soundservicelaw06_ChannelsTexts.j0]
    by_cases h2 : (m.length : Int) > 50
    · rw [decide_eq_true h2, if_pos rfl]
    · have hp : channels_Parse.f s = some (prs [] (pieces s)) := by unfold channels_Parse.f; rw [if_pos (by omega)]
      have hf : channels_Format.f m = some (fmt m) := by unfold channels_Format.f; rw [if_pos (by omega)]
      have hl := prs_len s
      rw [decide_eq_false h2, if_neg (by decide), hp, rparse_f s (by omega) k hk, Option.bind_some, Option.bind_some, if_pos rfl, rsame_f _ (by omega) k (by omega), Option.bind_some, if_pos rfl, hf, rformat_f m (by omega) k (by omega), Option.bind_some, Option.bind_some]
      simp
end Go.Proofs.YtglikjpnlgciiaaDoor.Pure
