/- ChannelsLists answers true: valid maps, places, sorted and common positions and equality are the reference's. -/
import Derived.Test.YtglikjpnlgciiaaDoorQx4
import Derived.Test.YtglikjpnlgciiaaDoorChM
namespace Go.Proofs.YtglikjpnlgciiaaDoor.Pure
open Go Go.RowKit Go.Proofs.YtglikjpnlgciiaaDoor.Q Go.Proofs.YtglikjpnlgciiaaDoor.L Go.Proofs.YtglikjpnlgciiaaDoorW.PrintWords Go.Proofs.YtglikjpnlgciiaaDoorW.PrintLast
theorem fi_eq (x : Int) (l : List Int) : ∀ i j : Nat, l[j]? = some x → (fi x i l = ((i + j : Nat) : Int) ↔ x ∉ l.take j) := by
  induction l with
  | nil => intro i j h; simp at h
  | cons y l ih =>
    intro i j h
    cases j with
    | zero =>
      have e : y = x := by simpa using h
      simp [fi, e]
    | succ j =>
      have h2 : l[j]? = some x := by simpa using h
      rw [fi]
      by_cases e : x = y
      · simp [e]; omega
      · rw [if_neg e]
        have := ih (i + 1) j h2
        rw [show i + 1 + j = i + (j + 1) from by omega] at this
        rw [this, List.take_succ_cons, List.mem_cons, not_or]
        exact ⟨fun h => ⟨e, h⟩, fun h => h.2⟩
theorem rindex_l0 (x : Int) (l : List Int) (hl : l.length ≤ 4611686018427387904) (d : Nat) : ∀ (k i : Nat), i + d = l.length → d < k → soundserviceref06_Index.l0 k x l (l.length : Int) (i : Int) = some (fi x i (l.drop i)) := by
  induction d with
  | zero =>
    intro k i h hk
    obtain ⟨k, rfl⟩ : ∃ m, k = m + 1 := ⟨k - 1, by omega⟩
    rw [soundserviceref06_Index.l0, if_neg (by omega), List.drop_of_length_le (by omega)]; rfl
  | succ d ih =>
    intro k i h hk
    obtain ⟨k, rfl⟩ : ∃ m, k = m + 1 := ⟨k - 1, by omega⟩
    have hi : i < l.length := by omega
    rw [soundserviceref06_Index.l0, if_pos (by omega), if_pos (by omega), if_pos (by omega), rd_at l i hi, w64 (n := (i : Int) + 1) (by omega) (by omega), List.drop_eq_getElem_cons hi, fi]
    have h2 := ih k (i + 1) (by omega) (by omega)
    rw [Int.natCast_succ] at h2
    rw [h2]
    by_cases e : l[i] = x
    · rw [if_pos e, if_pos e.symm]
    · rw [if_neg e, if_neg (fun h => e h.symm)]
theorem rindex_f (k : Nat) (x : Int) (l : List Int) (hl : l.length ≤ 4611686018427387904) (hk : l.length < k) : soundserviceref06_Index.f k l x = some (fi x 0 l) := by
  unfold soundserviceref06_Index.f
  have := rindex_l0 x l hl l.length k 0 (by omega) hk
  rw [show ((0 : Nat) : Int) = 0 from rfl, List.drop_zero] at this
  exact this
theorem rvalid_l0 (m : List Int) (hl : m.length ≤ 1000000) (d : Nat) : ∀ (k i : Nat), i + d = m.length → d + m.length + 1 < k → soundserviceref06_Valid.l0 k m m (m.length : Int) (i : Int) = some (okf (m.take i) (m.drop i) && decide (1 ≤ m.length ∧ m.length ≤ 8)) := by
  induction d with
  | zero =>
    intro k i h hk
    obtain ⟨k, rfl⟩ : ∃ m, k = m + 1 := ⟨k - 1, by omega⟩
    rw [soundserviceref06_Valid.l0, if_neg (by omega), List.drop_of_length_le (by omega), okf, Bool.true_and]
    by_cases h1 : (m.length : Int) ≥ 1
    · rw [if_pos h1]; congr 1; rw [decide_eq_decide]; omega
    · rw [if_neg h1, decide_eq_false (by omega)]
  | succ d ih =>
    intro k i h hk
    obtain ⟨k, rfl⟩ : ∃ m, k = m + 1 := ⟨k - 1, by omega⟩
    have hi : i < m.length := by omega
    rw [soundserviceref06_Valid.l0, if_pos (by omega), if_pos (by omega), if_pos (by omega), rd_at m i hi, List.drop_eq_getElem_cons hi, okf]
    by_cases c1 : m[i] < 1
    · rw [if_pos c1, decide_eq_false (show ¬ (1 ≤ m[i] ∧ m[i] ≤ 8) by omega)]; rfl
    · rw [if_neg c1]
      by_cases c2 : m[i] > 8
      · rw [if_pos c2, decide_eq_false (show ¬ (1 ≤ m[i] ∧ m[i] ≤ 8) by omega)]; rfl
      · rw [if_neg c2, rindex_f k _ _ (by omega) (by omega), decide_eq_true (show 1 ≤ m[i] ∧ m[i] ≤ 8 by omega), Option.bind_some, Bool.true_and]
        have hf := fi_eq m[i] m 0 i (by simp [hi])
        rw [Nat.zero_add] at hf
        by_cases hm : m[i] ∈ m.take i
        · rw [if_neg (fun e => hf.1 e hm), decide_eq_true hm]; rfl
        · have h2 := ih k (i + 1) (by omega) (by omega)
          rw [Int.natCast_succ] at h2
          rw [if_pos (hf.2 hm), decide_eq_false hm, w64 (by omega) (by omega), h2, List.take_succ_eq_append_getElem hi]
          simp
theorem rvalid_f (m : List Int) (hl : m.length ≤ 1000000) (k : Nat) (hk : 2 * m.length + 1 < k) : soundserviceref06_Valid.f k m = some (vld m) := by
  unfold soundserviceref06_Valid.f vld
  have := rvalid_l0 m hl m.length k 0 (by omega) (by omega)
  rw [show ((0 : Nat) : Int) = 0 from rfl, List.drop_zero, List.take_zero, Bool.and_comm] at this
  exact this
theorem sane_at : soundservicelaw06_sane.f 30 = some true := by decide +kernel
theorem sane_k (k : Nat) (hk : 30 ≤ k) : soundservicelaw06_sane.f k = some true := at_rounds soundservicelaw06_sane.mono hk sane_at
theorem equal_l0 (a b : List Int) (hab : a.length = b.length) (hl : a.length ≤ 4611686018427387904) (d : Nat) : ∀ (k i : Nat), i + d = a.length → d < k → slices_Equal_int_int.l0 k a b (a.length : Int) (i : Int) = some (decide (a.drop i = b.drop i)) := by
  induction d with
  | zero =>
    intro k i h hk
    obtain ⟨k, rfl⟩ : ∃ m, k = m + 1 := ⟨k - 1, by omega⟩
    rw [slices_Equal_int_int.l0, if_neg (by omega), List.drop_of_length_le (by omega), List.drop_of_length_le (by omega), decide_eq_true rfl]
  | succ d ih =>
    intro k i h hk
    obtain ⟨k, rfl⟩ : ∃ m, k = m + 1 := ⟨k - 1, by omega⟩
    have hi : i < a.length := by omega
    have hj : i < b.length := by omega
    have h2 := ih k (i + 1) (by omega) (by omega)
    rw [Int.natCast_succ] at h2
    rw [slices_Equal_int_int.l0, if_pos (by omega), if_pos (by omega), if_pos (by omega), if_pos (by omega), rd_at a i hi, rd_at b i hj, w64 (by omega) (by omega), h2, List.drop_eq_getElem_cons hi, List.drop_eq_getElem_cons hj]
    by_cases e : a[i] = b[i]
    · rw [if_pos e, e]; simp only [List.cons.injEq, true_and]
    · rw [if_neg e, decide_eq_false (fun h => e (List.cons.inj h).1)]
theorem same_f (a b : List Int) (hl : a.length ≤ 4611686018427387904) (k : Nat) (hk : a.length < k) : channels_Same.f k a b = some (decide (a = b)) := by
  unfold channels_Same.f slices_Equal_int_int.f
  by_cases h : (a.length : Int) = (b.length : Int)
  · have := equal_l0 a b (by omega) hl a.length k 0 (by omega) hk
    rw [show ((0 : Nat) : Int) = 0 from rfl, List.drop_zero, List.drop_zero] at this
    rw [if_pos h, this]; rfl
  · rw [if_neg h, decide_eq_false (fun e => h (by rw [e]))]; rfl
theorem common_l0 (b a : List Int) (ha : a.length ≤ 1000000) (hb : b.length ≤ 1000000) (d : Nat) : ∀ (k i : Nat) (acc : List Int), i + d = a.length → acc.length ≤ i → d + b.length < k →
    channels_Common.l0 k b acc a (a.length : Int) (i : Int) = some (acc ++ (a.drop i).filter fun p => decide (p ∈ b)) := by
  induction d with
  | zero =>
    intro k i acc h h2 hk
    obtain ⟨k, rfl⟩ : ∃ m, k = m + 1 := ⟨k - 1, by omega⟩
    rw [channels_Common.l0, if_neg (by omega), List.drop_of_length_le (by omega), List.filter_nil, List.append_nil]
  | succ d ih =>
    intro k i acc h h2 hk
    obtain ⟨k, rfl⟩ : ∃ m, k = m + 1 := ⟨k - 1, by omega⟩
    have hi : i < a.length := by omega
    rw [channels_Common.l0, if_pos (by omega), if_pos (by omega), if_pos (by omega), rd_at a i hi, contains_f k _ b (by omega) (by omega), Option.bind_some, w64 (by omega) (by omega), List.drop_eq_getElem_cons hi]
    by_cases hm : a[i] ∈ b
    · have h3 := ih k (i + 1) (acc ++ [a[i]]) (by omega) (by rw [List.length_append]; simp; omega) (by omega)
      rw [Int.natCast_succ] at h3
      rw [decide_eq_true hm, if_pos rfl, if_pos (by omega), h3, List.filter_cons_of_pos (by simpa using hm), List.append_assoc]
      rfl
    · have h3 := ih k (i + 1) acc (by omega) (by omega) (by omega)
      rw [Int.natCast_succ] at h3
      rw [decide_eq_false hm, if_neg (by decide), h3, List.filter_cons_of_neg (by simpa using hm)]
theorem common_f (a b : List Int) (ha : a.length ≤ 1000000) (hb : b.length ≤ 1000000) (k : Nat) (hk : a.length + b.length < k) : channels_Common.f k a b = some (a.filter fun p => decide (p ∈ b)) := by
  unfold channels_Common.f
  have := common_l0 b a ha hb a.length k 0 [] (by omega) (by simp) (by omega)
  simpa using this
/-! ### sorting -/
theorem srt_perm (l : List Int) : (srt l).Perm l := List.mergeSort_perm _ _
theorem srt_sorted (l : List Int) : (srt l).Pairwise (fun x y => x ≤ y) := by
  have := List.pairwise_mergeSort (le := fun x y : Int => decide (x ≤ y)) (fun a b c h1 h2 => by simp only [decide_eq_true_eq] at *; omega) (fun a b => by simp only [Bool.or_eq_true, decide_eq_true_eq]; omega) l
  exact this.imp (fun h => by simpa using h)
theorem srt_eq {a b : List Int} (h : a.Perm b) : srt a = srt b :=
  List.Perm.eq_of_pairwise (le := fun x y => x ≤ y) (fun x y _ _ h1 h2 => by omega) (srt_sorted a) (srt_sorted b) ((srt_perm a).trans (h.trans (srt_perm b).symm))
theorem requal_l0 (a b : List Int) (hab : a.length = b.length) (hl : a.length ≤ 4611686018427387904) (d : Nat) : ∀ (k i : Nat), i + d = a.length → d < k → soundserviceref06_Same.l0 k a b (a.length : Int) (i : Int) = some (decide (a.drop i = b.drop i)) := by
  induction d with
  | zero =>
    intro k i h hk
    obtain ⟨k, rfl⟩ : ∃ m, k = m + 1 := ⟨k - 1, by omega⟩
    rw [soundserviceref06_Same.l0, if_neg (by omega), List.drop_of_length_le (by omega), List.drop_of_length_le (by omega), decide_eq_true rfl]
  | succ d ih =>
    intro k i h hk
    obtain ⟨k, rfl⟩ : ∃ m, k = m + 1 := ⟨k - 1, by omega⟩
    have hi : i < a.length := by omega
    have hj : i < b.length := by omega
    have h2 := ih k (i + 1) (by omega) (by omega)
    rw [Int.natCast_succ] at h2
    rw [soundserviceref06_Same.l0, if_pos (by omega), if_pos (by omega), if_pos (by omega), if_pos (by omega), rd_at a i hi, rd_at b i hj, w64 (by omega) (by omega), h2, List.drop_eq_getElem_cons hi, List.drop_eq_getElem_cons hj]
    by_cases e : a[i] = b[i]
    · rw [if_pos e, e]; simp only [List.cons.injEq, true_and]
    · rw [if_neg e, decide_eq_false (fun h => e (List.cons.inj h).1)]
theorem rsame_f (a b : List Int) (hl : a.length ≤ 4611686018427387904) (k : Nat) (hk : a.length < k) : soundserviceref06_Same.f k a b = some (decide (a = b)) := by
  unfold soundserviceref06_Same.f
  by_cases h : (a.length : Int) = (b.length : Int)
  · have := requal_l0 a b (by omega) hl a.length k 0 (by omega) hk
    rw [show ((0 : Nat) : Int) = 0 from rfl, List.drop_zero, List.drop_zero] at this
    rw [if_pos h, this]
  · rw [if_neg h, decide_eq_false (fun e => h (by rw [e]))]
theorem rcommon_l0 (b a : List Int) (ha : a.length ≤ 1000000) (hb : b.length ≤ 1000000) (d : Nat) : ∀ (k i : Nat) (acc : List Int), i + d = a.length → acc.length ≤ i → d + b.length < k →
    soundserviceref06_Common.l0 k b acc a (a.length : Int) (i : Int) = some (acc ++ (a.drop i).filter fun p => decide (p ∈ b)) := by
  induction d with
  | zero =>
    intro k i acc h h2 hk
    obtain ⟨k, rfl⟩ : ∃ m, k = m + 1 := ⟨k - 1, by omega⟩
    rw [soundserviceref06_Common.l0, if_neg (by omega), List.drop_of_length_le (by omega), List.filter_nil, List.append_nil]
  | succ d ih =>
    intro k i acc h h2 hk
    obtain ⟨k, rfl⟩ : ∃ m, k = m + 1 := ⟨k - 1, by omega⟩
    have hi : i < a.length := by omega
    have hm := fi_mem a[i] b 0
    rw [soundserviceref06_Common.l0, if_pos (by omega), if_pos (by omega), if_pos (by omega), rd_at a i hi, rindex_f k _ b (by omega) (by omega), Option.bind_some, w64 (by omega) (by omega), List.drop_eq_getElem_cons hi]
    by_cases hg : fi a[i] 0 b ≥ 0
    · rw [decide_eq_true hg] at hm
      have h3 := ih k (i + 1) (acc ++ [a[i]]) (by omega) (by rw [List.length_append]; simp; omega) (by omega)
      rw [Int.natCast_succ] at h3
      rw [if_pos hg, if_pos (by omega), h3, List.filter_cons_of_pos (by simpa using hm.symm), List.append_assoc]
      rfl
    · rw [decide_eq_false hg] at hm
      have h3 := ih k (i + 1) acc (by omega) (by omega) (by omega)
      rw [Int.natCast_succ] at h3
      rw [if_neg hg, h3, List.filter_cons_of_neg (by simpa using hm.symm)]
theorem rcommon_f (a b : List Int) (ha : a.length ≤ 1000000) (hb : b.length ≤ 1000000) (k : Nat) (hk : a.length + b.length < k) : soundserviceref06_Common.f k a b = some (a.filter fun p => decide (p ∈ b)) := by
  unfold soundserviceref06_Common.f
  have := rcommon_l0 b a ha hb a.length k 0 [] (by omega) (by simp) (by omega)
  simpa using this
theorem index_f (k : Nat) (x : Int) (l : List Int) (hl : l.length ≤ 4611686018427387904) (hk : l.length < k) : channels_Index.f k l x = some (fi x 0 l) := by
  unfold channels_Index.f slices_Index_int_int.f
  have := index_l0 x l hl l.length k 0 (by omega) hk
  rw [show ((0 : Nat) : Int) = 0 from rfl, List.drop_zero] at this
  rw [this, Option.bind_some]
/-! ### the reference's sorting: each number is put in its place -/
theorem kpos_tells (m : List Int) (p : Int) : ∀ k, (∀ j, kpos m p k ≤ j → j < k → m.getD j 0 > p) ∧ (∀ i, kpos m p k = i + 1 → ¬ m.getD i 0 > p)
  | 0 => ⟨fun j _ h => absurd h (Nat.not_lt_zero _), fun i h => by rw [kpos] at h; omega⟩
  | k + 1 => by
    obtain ⟨h1, h2⟩ := kpos_tells m p k
    rw [kpos]
    by_cases h : m.getD k 0 > p
    · rw [if_pos h]
      refine ⟨fun j hj hk => ?_, h2⟩
      by_cases e : j = k
      · rw [e]; exact h
      · exact h1 j hj (by omega)
    · rw [if_neg h]
      exact ⟨fun j hj hk => by omega, fun i hi => by obtain rfl : i = k := by omega
                                                     exact h⟩
theorem getD_at (m : List Int) (i : Nat) (h : i < m.length) : m.getD i 0 = m[i] := by simp [h]
theorem put1_perm (m : List Int) (p : Int) : (put1 m p).Perm (m ++ [p]) := by
  unfold put1
  rw [List.nil_append]
  have h1 : (m.take (kpos m p m.length) ++ [p] ++ m.drop (kpos m p m.length)).Perm (m.take (kpos m p m.length) ++ m.drop (kpos m p m.length) ++ [p]) := by
    rw [List.append_assoc, List.append_assoc]
    exact List.Perm.append_left _ List.perm_append_comm
  rwa [List.take_append_drop] at h1
theorem put1_sorted (m : List Int) (p : Int) (h : m.Pairwise (fun x y => x ≤ y)) : (put1 m p).Pairwise (fun x y => x ≤ y) := by
  obtain ⟨h1, h2⟩ := kpos_tells m p m.length
  have hle := kpos_le m p m.length
  unfold put1
  rw [List.nil_append, List.append_assoc]
  generalize kpos m p m.length = n at h1 h2 hle ⊢
  have hlow : ∀ x ∈ m.take n, x ≤ p := by
    intro x hx
    obtain ⟨j, hj, rfl⟩ := List.getElem_of_mem hx
    rw [List.length_take] at hj
    rw [List.getElem_take]
    obtain ⟨i, rfl⟩ : ∃ i, n = i + 1 := ⟨n - 1, by omega⟩
    have h3 := h2 i rfl
    rw [getD_at _ _ (by omega)] at h3
    by_cases e : j = i
    · subst e; omega
    · have := List.pairwise_iff_getElem.1 h j i (by omega) (by omega) (by omega)
      omega
  have hhigh : ∀ x ∈ m.drop n, p ≤ x := by
    intro x hx
    obtain ⟨j, hj, rfl⟩ := List.getElem_of_mem hx
    rw [List.length_drop] at hj
    rw [List.getElem_drop]
    have h3 := h1 (n + j) (by omega) (by omega)
    rw [getD_at _ _ (by omega)] at h3
    omega
  rw [List.pairwise_append]
  refine ⟨h.sublist (List.take_sublist _ _), ?_, ?_⟩
  · rw [List.singleton_append, List.pairwise_cons]
    exact ⟨hhigh, h.sublist (List.drop_sublist _ _)⟩
  · intro x hx y hy
    rw [List.singleton_append, List.mem_cons] at hy
    rcases hy with rfl | hy
    · exact hlow x hx
    · have a1 := hlow x hx
      have a2 := hhigh y hy
      omega
theorem rsrt_srt (l : List Int) : rsrt l = srt l := by
  have key : ∀ (l m : List Int), m.Pairwise (fun x y => x ≤ y) → (l.foldl put1 m).Pairwise (fun x y => x ≤ y) ∧ (l.foldl put1 m).Perm (m ++ l) := by
    intro l
    induction l with
    | nil => intro m hm; exact ⟨hm, by simp⟩
    | cons p l ih =>
      intro m hm
      obtain ⟨h1, h2⟩ := ih _ (put1_sorted m p hm)
      refine ⟨h1, h2.trans ?_⟩
      have := (put1_perm m p).append_right l
      rwa [List.append_assoc] at this
  obtain ⟨h1, h2⟩ := key l [] List.Pairwise.nil
  exact List.Perm.eq_of_pairwise (le := fun x y => x ≤ y) (fun x y _ _ h1 h2 => by omega) h1 (srt_sorted l) (h2.trans (srt_perm l).symm)
theorem ChannelsLists : soundservicelaw06_ChannelsLists.Pure := by
  intro a b p ha ha2 haw hb hb2 hbw hp
  obtain ⟨k, hk⟩ : ∃ k, 1000 ≤ k := ⟨1000, Nat.le_refl _⟩
  refine ⟨k + 1, ?_⟩
  unfold soundservicelaw06_ChannelsLists.f
  rw [sane_k (k + 1) (by omega), Option.bind_some, if_pos rfl]
  have ht : soundservicelaw06_ChannelsLists.j0 (k + 1) a b p true = some true := by rw [soundservicelaw06_ChannelsLists.j0, if_pos rfl]
  by_cases h1 : (a.length : Int) > 40
  · rw [if_pos h1, ht]
  · rw [if_neg h1]
    by_cases h2 : (b.length : Int) > 40
    · rw [decide_eq_true h2, ht]
    · have hS : channels_Sorted.f a = some (srt a) := by unfold channels_Sorted.f; rw [if_pos (by omega)]
      have hR : soundserviceref06_Sorted.f a = some (srt a) := by unfold soundserviceref06_Sorted.f; rw [if_pos (by omega), rsrt_srt]
      have hf1 := List.length_filter_le (fun p => decide (p ∈ b)) a
      rw [decide_eq_false h2, soundservicelaw06_ChannelsLists.j0, if_neg (by decide), valid_f a k (by omega), Option.bind_some, rvalid_f a (by omega) k (by omega), Option.bind_some, beq_self_eq_true, if_pos rfl,
        index_f k p a (by omega) (by omega), Option.bind_some, rindex_f k p a (by omega) (by omega), Option.bind_some, if_pos rfl, hS, Option.bind_some, hR, Option.bind_some, rsame_f (srt a) (srt a) (by rw [srt_len]; omega) k (by rw [srt_len]; omega), Option.bind_some, decide_eq_true rfl, if_pos rfl,
        same_f a b (by omega) k (by omega), Option.bind_some, rsame_f a b (by omega) k (by omega), Option.bind_some, beq_self_eq_true, if_pos rfl, common_f a b (by omega) (by omega) k (by omega), Option.bind_some, rcommon_f a b (by omega) (by omega) k (by omega), Option.bind_some,
        rsame_f _ _ (by omega) k (by omega), Option.bind_some, decide_eq_true rfl]
end Go.Proofs.YtglikjpnlgciiaaDoor.Pure
