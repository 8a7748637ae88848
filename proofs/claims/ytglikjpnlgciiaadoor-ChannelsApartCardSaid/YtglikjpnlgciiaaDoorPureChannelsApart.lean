/- ChannelsApart answers true: two valid maps have the same text exactly if they are the same, and a map that was read from a text has that text. -/
import Derived.Test.YtglikjpnlgciiaaDoorQx4
import Derived.Test.YtglikjpnlgciiaaDoorChL2
namespace Go.Proofs.YtglikjpnlgciiaaDoor.Pure
open Go Go.RowKit Go.Proofs.YtglikjpnlgciiaaDoor.Q Go.Proofs.YtglikjpnlgciiaaDoor.L Go.Proofs.YtglikjpnlgciiaaDoorW.PrintWords Go.Proofs.YtglikjpnlgciiaaDoorW.PrintLast
theorem sane_at : soundservicelaw06_sane.f 30 = some true := by decide +kernel
theorem sane_k (k : Nat) (hk : 30 ≤ k) : soundservicelaw06_sane.f k = some true := at_rounds soundservicelaw06_sane.mono hk sane_at
theorem equal_l0 (a b : List Int) (hab : a.length = b.length) (hl : a.length ≤ 4611686018427387904) (d : Nat) : ∀ (k i : Nat), i + d = a.length → d < k → slices_Equal_int_int.l0 k a b (a.length : Int) (i : Int) = some (decide (a.drop i = b.drop i)) := by
  induction d with
  | zero =>
    intro k i h hk
    obtain ⟨k, rfl⟩ : ∃ m, k = m + 1 := ⟨k - 1, by omega⟩
    rw [slices_Equal_int_int.l0, if_neg (by omega), List.drop_of_length_le (by omega), List.drop_of_length_le (by omega), decide_eq_true rfl]
  | succ d ih =>
    intro k i h hk
    obtain ⟨k, rfl⟩ : ∃ m, k = m + 1 := ⟨k - 1, by omega⟩
    have hi : i < a.length := by omega
    have hj : i < b.length := by omega
    have h2 := ih k (i + 1) (by omega) (by omega)
    rw [Int.natCast_succ] at h2
    rw [slices_Equal_int_int.l0, if_pos (by omega), if_pos (by omega), if_pos (by omega), if_pos (by omega), rd_at a i hi, rd_at b i hj, w64 (by omega) (by omega), h2, List.drop_eq_getElem_cons hi, List.drop_eq_getElem_cons hj]
    by_cases e : a[i] = b[i]
    · rw [if_pos e, e]; simp only [List.cons.injEq, true_and]
    · rw [if_neg e, decide_eq_false (fun h => e (List.cons.inj h).1)]
theorem same_f (a b : List Int) (hl : a.length ≤ 4611686018427387904) (k : Nat) (hk : a.length < k) : channels_Same.f k a b = some (decide (a = b)) := by
  unfold channels_Same.f slices_Equal_int_int.f
  by_cases h : (a.length : Int) = (b.length : Int)
  · have := equal_l0 a b (by omega) hl a.length k 0 (by omega) hk
    rw [show ((0 : Nat) : Int) = 0 from rfl, List.drop_zero, List.drop_zero] at this
    rw [if_pos h, this]; rfl
  · rw [if_neg h, decide_eq_false (fun e => h (by rw [e]))]; rfl
theorem beq_list {a b : List Int} (ha : vld a = true) (hb : vld b = true) : (((fmt a).toList == (fmt b).toList) != decide (a = b)) = false := by
  by_cases h : a = b
  · subst h; simp
  · have : (fmt a).toList ≠ (fmt b).toList := fun e => h ((fmt_inj ha hb).1 (ba_ext (by rwa [ByteArray.toList_eq, ByteArray.toList_eq] at e)))
    simp [h, this]
theorem part (s : ByteArray) (hs : s.size ≤ 60) (k : Nat) (hk : 1000 ≤ k) : soundservicelaw06_ChannelsApart.j1 (k + 1) s false = some true := by
  have hp : channels_Parse.f s = some (prs [] (pieces s)) := by unfold channels_Parse.f; rw [if_pos (by omega)]
  have hl := prs_len s
  rw [soundservicelaw06_ChannelsApart.j1, if_neg (by decide), hp, Option.bind_some]
  by_cases h : (prs [] (pieces s)).2 = 0
  · obtain ⟨h1, h2⟩ := forth (s := s) (r := (prs [] (pieces s)).1) (by rw [← h])
    have hf : channels_Format.f (prs [] (pieces s)).1 = some (fmt (prs [] (pieces s)).1) := by unfold channels_Format.f; rw [if_pos (by omega)]
    rw [if_pos h, hf, Option.bind_some, h1, if_pos rfl, valid_f _ k (by omega), Option.bind_some, h2]
  · rw [if_neg h, prs_err h]; rfl
theorem ChannelsApart : soundservicelaw06_ChannelsApart.Pure := by
  intro a b s ha ha2 haw hb hb2 hbw hs
  obtain ⟨k, hk⟩ : ∃ k, 1000 ≤ k := ⟨1000, Nat.le_refl _⟩
  refine ⟨k + 1 + 1, ?_⟩
  unfold soundservicelaw06_ChannelsApart.f
  rw [sane_k (k + 1 + 1) (by omega), Option.bind_some, if_pos rfl]
  have ht : soundservicelaw06_ChannelsApart.j0 (k + 1 + 1) a b s true = some true := by rw [soundservicelaw06_ChannelsApart.j0, if_pos rfl]
  by_cases h1 : (a.length : Int) > 12
  · rw [if_pos h1, ht]
  · rw [if_neg h1]
    by_cases h2 : (b.length : Int) > 12
    · rw [if_pos h2, ht]
    · rw [if_neg h2]
      by_cases h3 : (s.size : Int) > 60
      · rw [decide_eq_true h3, ht]
      · have hj := part s (by omega) k hk
        rw [decide_eq_false h3, soundservicelaw06_ChannelsApart.j0, if_neg (by decide), valid_f a _ (by omega), Option.bind_some]
        by_cases hva : vld a = true
        · rw [if_pos hva, valid_f b _ (by omega), Option.bind_some]
          by_cases hvb : vld b = true
          · have hfa : channels_Format.f a = some (fmt a) := by unfold channels_Format.f; rw [if_pos (by omega)]
            have hfb : channels_Format.f b = some (fmt b) := by unfold channels_Format.f; rw [if_pos (by omega)]
            rw [if_pos hvb, hfa, hfb, same_f a b (by omega) _ (by omega), Option.bind_some, Option.bind_some, Option.bind_some, beq_list hva hvb, hj]
          · rw [if_neg hvb, hj]
        · rw [if_neg hva, hj]
end Go.Proofs.YtglikjpnlgciiaaDoor.Pure
