/- ChannelsBack answers true: a valid map comes back from its text, sorting keeps the positions, common positions are the same set from both sides. -/
import Derived.Test.YtglikjpnlgciiaaDoorQx3
import Derived.Test.YtglikjpnlgciiaaDoorChM
namespace Go.Proofs.YtglikjpnlgciiaaDoor.Pure
open Go Go.RowKit Go.Proofs.YtglikjpnlgciiaaDoor.Q Go.Proofs.YtglikjpnlgciiaaDoor.L Go.Proofs.YtglikjpnlgciiaaDoorW.PrintWords Go.Proofs.YtglikjpnlgciiaaDoorW.PrintLast
theorem sane_at : soundservicelaw06_sane.f 30 = some true := by decide +kernel
theorem sane_k (k : Nat) (hk : 30 ≤ k) : soundservicelaw06_sane.f k = some true := at_rounds soundservicelaw06_sane.mono hk sane_at
theorem equal_l0 (a b : List Int) (hab : a.length = b.length) (hl : a.length ≤ 4611686018427387904) (d : Nat) : ∀ (k i : Nat), i + d = a.length → d < k → slices_Equal_int_int.l0 k a b (a.length : Int) (i : Int) = some (decide (a.drop i = b.drop i)) := by
  induction d with
  | zero =>
    intro k i h hk
    obtain ⟨k, rfl⟩ : ∃ m, k = m + 1 := ⟨k - 1, by omega⟩
    rw [slices_Equal_int_int.l0, if_neg (by omega), List.drop_of_length_le (by omega), List.drop_of_length_le (by omega), decide_eq_true rfl]
  | succ d ih =>
    intro k i h hk
    obtain ⟨k, rfl⟩ : ∃ m, k = m + 1 := ⟨k - 1, by omega⟩
    have hi : i < a.length := by omega
    have hj : i < b.length := by omega
    have h2 := ih k (i + 1) (by omega) (by omega)
    rw [Int.natCast_succ] at h2
    rw [slices_Equal_int_int.l0, if_pos (by omega), if_pos (by omega), if_pos (by omega), if_pos (by omega), rd_at a i hi, rd_at b i hj, w64 (by omega) (by omega), h2, List.drop_eq_getElem_cons hi, List.drop_eq_getElem_cons hj]
    by_cases e : a[i] = b[i]
    · rw [if_pos e, e]; simp only [List.cons.injEq, true_and]
    · rw [if_neg e, decide_eq_false (fun h => e (List.cons.inj h).1)]
theorem same_f (a b : List Int) (hl : a.length ≤ 4611686018427387904) (k : Nat) (hk : a.length < k) : channels_Same.f k a b = some (decide (a = b)) := by
  unfold channels_Same.f slices_Equal_int_int.f
  by_cases h : (a.length : Int) = (b.length : Int)
  · have := equal_l0 a b (by omega) hl a.length k 0 (by omega) hk
    rw [show ((0 : Nat) : Int) = 0 from rfl, List.drop_zero, List.drop_zero] at this
    rw [if_pos h, this]; rfl
  · rw [if_neg h, decide_eq_false (fun e => h (by rw [e]))]; rfl
theorem common_l0 (b a : List Int) (ha : a.length ≤ 1000000) (hb : b.length ≤ 1000000) (d : Nat) : ∀ (k i : Nat) (acc : List Int), i + d = a.length → acc.length ≤ i → d + b.length < k →
    channels_Common.l0 k b acc a (a.length : Int) (i : Int) = some (acc ++ (a.drop i).filter fun p => decide (p ∈ b)) := by
  induction d with
  | zero =>
    intro k i acc h h2 hk
    obtain ⟨k, rfl⟩ : ∃ m, k = m + 1 := ⟨k - 1, by omega⟩
    rw [channels_Common.l0, if_neg (by omega), List.drop_of_length_le (by omega), List.filter_nil, List.append_nil]
  | succ d ih =>
    intro k i acc h h2 hk
    obtain ⟨k, rfl⟩ : ∃ m, k = m + 1 := ⟨k - 1, by omega⟩
    have hi : i < a.length := by omega
    rw [channels_Common.l0, if_pos (by omega), if_pos (by omega), if_pos (by omega), rd_at a i hi, contains_f k _ b (by omega) (by omega), Option.bind_some, w64 (by omega) (by omega), List.drop_eq_getElem_cons hi]
    by_cases hm : a[i] ∈ b
    · have h3 := ih k (i + 1) (acc ++ [a[i]]) (by omega) (by rw [List.length_append]; simp; omega) (by omega)
      rw [Int.natCast_succ] at h3
      rw [decide_eq_true hm, if_pos rfl, if_pos (by omega), h3, List.filter_cons_of_pos (by simpa using hm), List.append_assoc]
      rfl
    · have h3 := ih k (i + 1) acc (by omega) (by omega) (by omega)
      rw [Int.natCast_succ] at h3
      rw [decide_eq_false hm, if_neg (by decide), h3, List.filter_cons_of_neg (by simpa using hm)]
theorem common_f (a b : List Int) (ha : a.length ≤ 1000000) (hb : b.length ≤ 1000000) (k : Nat) (hk : a.length + b.length < k) : channels_Common.f k a b = some (a.filter fun p => decide (p ∈ b)) := by
  unfold channels_Common.f
  have := common_l0 b a ha hb a.length k 0 [] (by omega) (by simp) (by omega)
  simpa using this
/-! ### sorting -/
theorem srt_perm (l : List Int) : (srt l).Perm l := List.mergeSort_perm _ _
theorem srt_sorted (l : List Int) : (srt l).Pairwise (fun x y => x ≤ y) := by
  have := List.pairwise_mergeSort (le := fun x y : Int => decide (x ≤ y)) (fun a b c h1 h2 => by simp only [decide_eq_true_eq] at *; omega) (fun a b => by simp only [Bool.or_eq_true, decide_eq_true_eq]; omega) l
  exact this.imp (fun h => by simpa using h)
theorem srt_eq {a b : List Int} (h : a.Perm b) : srt a = srt b :=
  List.Perm.eq_of_pairwise (le := fun x y => x ≤ y) (fun x y _ _ h1 h2 => by omega) (srt_sorted a) (srt_sorted b) ((srt_perm a).trans (h.trans (srt_perm b).symm))
theorem okf_iff (m : List Int) : ∀ seen, okf seen m = true ↔ ((∀ p ∈ m, 1 ≤ p ∧ p ≤ 8) ∧ (∀ p ∈ m, p ∉ seen) ∧ m.Nodup) := by
  induction m with
  | nil => intro seen; simp [okf]
  | cons q m ih =>
    intro seen
    rw [okf, Bool.and_eq_true, Bool.and_eq_true, ih, decide_eq_true_eq]
    simp only [Bool.not_eq_true', decide_eq_false_iff_not, List.mem_cons, List.nodup_cons, List.mem_append, not_or, List.not_mem_nil, or_false]
    constructor
    · rintro ⟨⟨h1, h2⟩, h3, h4, h5⟩
      refine ⟨?_, ?_, fun hq => (h4 q hq).2 rfl, h5⟩
      · rintro p (rfl | hp)
        · exact h1
        · exact h3 p hp
      · rintro p (rfl | hp)
        · exact h2
        · exact (h4 p hp).1
    · rintro ⟨h1, h2, h3, h4⟩
      exact ⟨⟨h1 q (.inl rfl), h2 q (.inl rfl)⟩, fun p hp => h1 p (.inr hp), fun p hp => ⟨h2 p (.inr hp), fun e => h3 (e ▸ hp)⟩, h4⟩
theorem vld_iff (m : List Int) : vld m = true ↔ ((1 ≤ m.length ∧ m.length ≤ 8) ∧ (∀ p ∈ m, 1 ≤ p ∧ p ≤ 8) ∧ m.Nodup) := by
  unfold vld
  rw [Bool.and_eq_true, decide_eq_true_eq, okf_iff]
  simp
theorem vld_srt {a : List Int} (h : vld a = true) : vld (srt a) = true := by
  rw [vld_iff] at h ⊢
  obtain ⟨h1, h2, h3⟩ := h
  exact ⟨by rw [srt_len]; exact h1, fun p hp => h2 p ((srt_perm a).subset hp), (srt_perm a).symm.nodup h3⟩
theorem common_perm {a b : List Int} (ha : a.Nodup) (hb : b.Nodup) : (a.filter fun p => decide (p ∈ b)).Perm (b.filter fun p => decide (p ∈ a)) := by
  rw [List.perm_ext_iff_of_nodup (ha.filter _) (hb.filter _)]
  intro x
  simp only [List.mem_filter, decide_eq_true_eq]
  exact And.comm
theorem rising {a : List Int} (h : a.Nodup) (i : Nat) (hi : i + 1 < (srt a).length) : (srt a)[i] < (srt a)[i + 1] := by
  have h1 := List.pairwise_iff_getElem.1 (srt_sorted a) i (i + 1) (by omega) hi (by omega)
  have h2 := List.pairwise_iff_getElem.1 ((srt_perm a).symm.nodup h) i (i + 1) (by omega) hi (by omega)
  omega
theorem loop_at (a b : List Int) (ha : vld a = true) (hb : vld b = true) (d : Nat) : ∀ (k i : Nat), i + d = a.length → 1 ≤ i → d + 100 < k →
    soundservicelaw06_ChannelsBack.l0 k a b a 0 (srt a) (i : Int) = some true := by
  obtain ⟨ha1, ha2, ha3⟩ := (vld_iff a).1 ha
  obtain ⟨hb1, hb2, hb3⟩ := (vld_iff b).1 hb
  have hl := srt_len a
  induction d with
  | zero =>
    intro k i h h1 hk
    obtain ⟨k, rfl⟩ : ∃ m, k = m + 1 := ⟨k - 1, by omega⟩
    have hc1 : (a.filter fun p => decide (p ∈ srt a)) = a := List.filter_eq_self.2 fun p hp => by simpa using (srt_perm a).symm.subset hp
    have hf1 := List.length_filter_le (fun p => decide (p ∈ b)) a
    have hf2 := List.length_filter_le (fun p => decide (p ∈ a)) b
    have hS1 : channels_Sorted.f (a.filter fun p => decide (p ∈ b)) = some (srt (a.filter fun p => decide (p ∈ b))) := by unfold channels_Sorted.f; rw [if_pos (by omega)]
    have hS2 : channels_Sorted.f (b.filter fun p => decide (p ∈ a)) = some (srt (b.filter fun p => decide (p ∈ a))) := by unfold channels_Sorted.f; rw [if_pos (by omega)]
    rw [soundservicelaw06_ChannelsBack.l0, if_neg (by omega), if_pos rfl, same_f _ _ (by omega) k (by omega), Option.bind_some, decide_eq_true rfl, if_pos rfl, valid_f _ k (by omega), Option.bind_some, vld_srt ha, if_pos rfl,
      common_f a (srt a) (by omega) (by omega) k (by omega), Option.bind_some, hc1, if_pos rfl, common_f a b (by omega) (by omega) k (by omega), Option.bind_some, hS1, Option.bind_some, common_f b a (by omega) (by omega) k (by omega), Option.bind_some, hS2, Option.bind_some,
      same_f _ _ (by rw [srt_len]; omega) k (by rw [srt_len]; omega), Option.bind_some, srt_eq (common_perm ha3 hb3), decide_eq_true rfl]
  | succ d ih =>
    intro k i h h1 hk
    obtain ⟨k, rfl⟩ : ∃ m, k = m + 1 := ⟨k - 1, by omega⟩
    obtain ⟨j, rfl⟩ : ∃ j, i = j + 1 := ⟨i - 1, by omega⟩
    have h2 := ih k (j + 1 + 1) (by omega) (by omega) (by omega)
    have hr := rising ha3 j (by omega)
    have e1 : wrap64 (((j + 1 : Nat) : Int) - 1) = (j : Int) := by rw [w64 (by omega) (by omega)]; omega
    have e2 : wrap64 (((j + 1 : Nat) : Int) + 1) = ((j + 1 + 1 : Nat) : Int) := by rw [w64 (by omega) (by omega)]; omega
    rw [soundservicelaw06_ChannelsBack.l0, if_pos (by omega), e1, if_pos (by omega), if_pos (by omega), if_pos (by omega), rd_at _ j (by omega), rd_at _ (j + 1) (by omega), if_neg (by omega), e2, h2]
theorem ChannelsBack : soundservicelaw06_ChannelsBack.Pure := by
  intro a b ha ha2 haw hb hb2 hbw
  obtain ⟨k, hk⟩ : ∃ k, 1000 ≤ k := ⟨1000, Nat.le_refl _⟩
  refine ⟨k + 1, ?_⟩
  unfold soundservicelaw06_ChannelsBack.f
  rw [sane_k (k + 1) (by omega), Option.bind_some, if_pos rfl]
  have ht : soundservicelaw06_ChannelsBack.j0 (k + 1) a b true = some true := by rw [soundservicelaw06_ChannelsBack.j0, if_pos rfl]
  by_cases h1 : (a.length : Int) > 40
  · rw [if_pos h1, ht]
  · rw [if_neg h1]
    by_cases h2 : (b.length : Int) > 40
    · rw [if_pos h2, ht]
    · rw [if_neg h2, valid_f a _ (by omega), Option.bind_some]
      by_cases hva : vld a = true
      · rw [if_pos hva, valid_f b _ (by omega), Option.bind_some]
        by_cases hvb : vld b = true
        · have hfa : channels_Format.f a = some (fmt a) := by unfold channels_Format.f; rw [if_pos (by omega)]
          have hz := fmt_size a
          have hp : channels_Parse.f (fmt a) = some (a, 0) := by unfold channels_Parse.f; rw [if_pos (by omega), back hva]
          have hS : channels_Sorted.f a = some (srt a) := by unfold channels_Sorted.f; rw [if_pos (by omega)]
          have hl := loop_at a b hva hvb (a.length - 1) k 1 (by have := ((vld_iff a).1 hva).1; omega) (by omega) (by omega)
          rw [hvb, soundservicelaw06_ChannelsBack.j0, if_neg (by decide), hfa, Option.bind_some, hp, Option.bind_some, hS, Option.bind_some]
          exact hl
        · rw [show vld b = false from by simpa using hvb]
          exact ht
      · rw [if_neg hva, ht]
end Go.Proofs.YtglikjpnlgciiaaDoor.Pure
