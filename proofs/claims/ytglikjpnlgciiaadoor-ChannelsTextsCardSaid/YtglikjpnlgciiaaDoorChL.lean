/- channels: what the reference's functions tell, and that a map comes back from its text: plain lists. -/
import Derived.Test.YtglikjpnlgciiaaDoorChSp
import Derived.Test.YtglikjpnlgciiaaDoorChP
import Derived.Test.YtglikjpnlgciiaaDoorQx3
namespace Go.Proofs.YtglikjpnlgciiaaDoor.L
open Go Go.RowKit Go.Proofs.YtglikjpnlgciiaaDoor.Q Go.Proofs.YtglikjpnlgciiaaDoorW.PrintWords Go.Proofs.YtglikjpnlgciiaaDoorW.PrintLast Go.Proofs.YtglikjpnlgciiaaDoorW.PrintMore
set_option linter.unusedVariables false
set_option linter.unusedSimpArgs false
def nml (p : Int) : List UInt8 := (nmOf p).data.toList
def idl (x : List UInt8) : Int := idx ⟨x.toArray⟩
def prl (m : List Int) : List (List UInt8) → List Int × Int
  | [] => if vld m = true then (m, 0) else ([], 1)
  | x :: r => if idl x < 0 then ([], 5) else prl (m ++ [idl x + 1]) r
theorem idl_of (x : ByteArray) : idl x.data.toList = idx x := by unfold idl; rw [Array.toArray_toList]
theorem prs_prl (ps : List ByteArray) : ∀ m, prs m ps = prl m (ps.map (·.data.toList)) := by
  induction ps with
  | nil => intro m; rfl
  | cons x r ih => intro m; rw [List.map_cons, prs, prl, idl_of, ih]
theorem pieces_sp (s : ByteArray) : (pieces s).map (·.data.toList) = sp s.data.toList := by
  unfold pieces
  rw [Lib.splitB_data]
  exact splitK_sp _
theorem prs_sp (s : ByteArray) : prs [] (pieces s) = prl [] (sp s.data.toList) := by rw [prs_prl, pieces_sp]
theorem idxFrom_cases (x : ByteArray) (zs : List ByteArray) : ∀ i, Lib.idxFromS zs x i = -1 ∨ ∃ k, k < zs.length ∧ Lib.idxFromS zs x i = ((i + k : Nat) : Int) ∧ zs[k]? = some x := by
  induction zs with
  | nil => intro i; exact .inl rfl
  | cons z zs ih =>
    intro i
    rw [Lib.idxFromS]
    by_cases h : z = x
    · exact .inr ⟨0, by simp, by rw [if_pos h]; simp, by simp [h]⟩
    · rw [if_neg h]
      rcases ih (i + 1) with h1 | ⟨k, h1, h2, h3⟩
      · exact .inl h1
      · exact .inr ⟨k + 1, by simp; omega, by rw [h2]; congr 1; omega, by simpa using h3⟩
theorem idl_cases (x : List UInt8) : idl x = -1 ∨ ∃ p : Int, 1 ≤ p ∧ p ≤ 8 ∧ idl x = p - 1 ∧ x = nml p := by
  rcases idxFrom_cases ⟨x.toArray⟩ (nmsL.drop 1) 0 with h | ⟨k, h1, h2, h3⟩
  · exact .inl h
  · refine .inr ⟨(k : Int) + 1, by omega, ?_, ?_, ?_⟩
    · have : (nmsL.drop 1).length = 8 := rfl
      omega
    · show Lib.idxFromS _ _ 0 = _
      rw [h2]; omega
    · have h4 : k < 8 := h1
      have h5 : nmOf ((k : Int) + 1) = nms (k + 1) := by unfold nmOf; rw [if_pos (by omega)]; congr 1
      unfold nml
      rw [h5]
      have h6 : (nmsL.drop 1)[k]? = some (nms (k + 1)) := by
        have : ∀ j : Fin 8, (nmsL.drop 1)[j.val]? = some (nms (j.val + 1)) := by decide +kernel
        exact this ⟨k, h4⟩
      rw [h3] at h6
      have := Option.some.inj h6
      rw [← this]
theorem ranged {P : Int → Prop} (h : ∀ j : Fin 8, P ((j.val : Int) + 1)) (p : Int) (h1 : 1 ≤ p) (h2 : p ≤ 8) : P p := by
  have := h ⟨(p - 1).toNat, by omega⟩
  rwa [show (((p - 1).toNat : Nat) : Int) + 1 = p from by omega] at this
theorem idl_nml (p : Int) (h1 : 1 ≤ p) (h2 : p ≤ 8) : idl (nml p) = p - 1 := ranged (P := fun p => idl (nml p) = p - 1) (by decide +kernel) p h1 h2
theorem nml_len (p : Int) (h1 : 1 ≤ p) (h2 : p ≤ 8) : (nml p).length = 2 := ranged (P := fun p => (nml p).length = 2) (by decide +kernel) p h1 h2
theorem nml_no (p : Int) (h1 : 1 ≤ p) (h2 : p ≤ 8) : ∀ c ∈ nml p, c ≠ 44 := ranged (P := fun p => ∀ c ∈ nml p, c ≠ 44) (by decide +kernel) p h1 h2
theorem sp_pre (x : List UInt8) (h : ∀ c ∈ x, c ≠ 44) (l : List UInt8) : sp (x ++ 44 :: l) = x :: sp l := by
  induction x with
  | nil => rw [List.nil_append, sp, if_pos rfl]
  | cons c x ih => rw [List.cons_append, sp, if_neg (h c (by simp)), ih (fun d hd => h d (by simp [hd]))]
theorem sp_all (x : List UInt8) (h : ∀ c ∈ x, c ≠ 44) : sp x = [x] := by
  induction x with
  | nil => rfl
  | cons c x ih => rw [sp, if_neg (h c (by simp)), ih (fun d hd => h d (by simp [hd]))]
theorem sp_hd (l : List UInt8) : ∃ t, sp l = l.takeWhile (fun c => !decide (c = 44)) :: t := by
  induction l with
  | nil => exact ⟨[], rfl⟩
  | cons c l ih =>
    obtain ⟨t, ht⟩ := ih
    by_cases h : c = 44
    · exact ⟨sp l, by rw [sp, if_pos h, List.takeWhile_cons]; simp [h]⟩
    · exact ⟨t, by rw [sp, if_neg h, ht, List.takeWhile_cons]; simp [h]⟩
theorem sp_join (xs : List (List UInt8)) (hne : xs ≠ []) (h : ∀ x ∈ xs, ∀ c ∈ x, c ≠ 44) : sp (Lib.join xs [44]) = xs := by
  induction xs with
  | nil => exact absurd rfl hne
  | cons x xs ih =>
    cases xs with
    | nil => rw [Lib.join_one]; exact sp_all x (h x (by simp))
    | cons y ys =>
      have e : Lib.join (x :: y :: ys) [44] = x ++ 44 :: Lib.join (y :: ys) [44] := by simp [Lib.join, List.intercalate_cons_cons]
      rw [e, sp_pre x (h x (by simp)), ih (by simp) (fun z hz => h z (by simp only [List.mem_cons] at hz ⊢; exact .inr hz))]
theorem join_sp (l : List UInt8) : Lib.join (sp l) [44] = l := by
  induction l with
  | nil => rfl
  | cons c l ih =>
    by_cases h : c = 44
    · rw [sp, if_pos h, h]
      cases hs : sp l with
      | nil => exact absurd hs (sp_ne l)
      | cons x r =>
        rw [hs] at ih
        rw [show Lib.join ([] :: x :: r) [44] = [] ++ 44 :: Lib.join (x :: r) [44] from by simp [Lib.join, List.intercalate_cons_cons], ih]
        rfl
    · rw [sp, if_neg h]
      cases hs : sp l with
      | nil => exact absurd hs (sp_ne l)
      | cons x r =>
        rw [hs] at ih
        cases r with
        | nil => rw [Lib.join_one] at ih; show Lib.join [c :: x] [44] = _; rw [Lib.join_one, ih]
        | cons y r =>
          rw [show Lib.join (x :: y :: r) [44] = x ++ 44 :: Lib.join (y :: r) [44] from by simp [Lib.join, List.intercalate_cons_cons]] at ih
          show Lib.join ((c :: x) :: y :: r) [44] = _
          rw [show Lib.join ((c :: x) :: y :: r) [44] = c :: (x ++ 44 :: Lib.join (y :: r) [44]) from by simp [Lib.join, List.intercalate_cons_cons], ih]
/-! ### what Parse tells -/
theorem pl_bad (m : List Int) (R : List UInt8) (h : ∀ p : Int, 1 ≤ p → p ≤ 8 → R.takeWhile (fun c => !decide (c = 44)) ≠ nml p) : prl m (sp R) = ([], 5) := by
  obtain ⟨t, ht⟩ := sp_hd R
  rw [ht, prl]
  rcases idl_cases (R.takeWhile (fun c => !decide (c = 44))) with h1 | ⟨p, h1, h2, _, h3⟩
  · rw [if_pos (by omega)]
  · exact absurd h3 (h p h1 h2)
theorem pl_short (m : List Int) (R : List UInt8) (h : R.length < 2) : prl m (sp R) = ([], 5) := by
  refine pl_bad m R fun p h1 h2 e => ?_
  have h3 := nml_len p h1 h2
  have h4 := (List.takeWhile_prefix (l := R) (fun c => !decide (c = 44))).length_le
  rw [e] at h4
  omega
theorem pl_none (m : List Int) (R : List UInt8) (h : idl (R.take 2) = -1) : prl m (sp R) = ([], 5) := by
  refine pl_bad m R fun p h1 h2 e => ?_
  have h3 := nml_len p h1 h2
  have h4 := List.takeWhile_prefix (l := R) (fun c => !decide (c = 44))
  rw [e] at h4
  have h5 := List.prefix_iff_eq_take.1 h4
  rw [h3] at h5
  rw [← h5, idl_nml p h1 h2] at h
  omega
theorem pl_one (m : List Int) (p : Int) (h1 : 1 ≤ p) (h2 : p ≤ 8) : prl m (sp (nml p)) = if vld (m ++ [p]) = true then (m ++ [p], 0) else ([], 1) := by
  rw [sp_all _ (nml_no p h1 h2), prl, idl_nml p h1 h2, if_neg (by omega), prl, show p - 1 + 1 = p from by omega]
theorem pl_more (m : List Int) (p : Int) (h1 : 1 ≤ p) (h2 : p ≤ 8) (T : List UInt8) : prl m (sp (nml p ++ 44 :: T)) = prl (m ++ [p]) (sp T) := by
  rw [sp_pre _ (nml_no p h1 h2), prl, idl_nml p h1 h2, if_neg (by omega), show p - 1 + 1 = p from by omega]
theorem pl_long (m : List Int) (p : Int) (h1 : 1 ≤ p) (h2 : p ≤ 8) (c : UInt8) (hc : c ≠ 44) (T : List UInt8) : prl m (sp (nml p ++ c :: T)) = ([], 5) := by
  refine pl_bad m _ fun q h3 h4 e => ?_
  have h5 := congrArg List.length e
  rw [List.takeWhile_append_of_pos (fun d hd => by simpa using nml_no p h1 h2 d hd), List.takeWhile_cons, if_pos (by simpa using hc), List.length_append, nml_len p h1 h2, nml_len q h3 h4, List.length_cons] at h5
  omega
/-! ### which maps are valid, by the reference -/
theorem fi_eq (x : Int) (l : List Int) : ∀ i j : Nat, l[j]? = some x → (fi x i l = ((i + j : Nat) : Int) ↔ x ∉ l.take j) := by
  induction l with
  | nil => intro i j h; simp at h
  | cons y l ih =>
    intro i j h
    cases j with
    | zero =>
      have e : y = x := by simpa using h
      simp [fi, e]
    | succ j =>
      have h2 : l[j]? = some x := by simpa using h
      rw [fi]
      by_cases e : x = y
      · simp [e]; omega
      · rw [if_neg e]
        have := ih (i + 1) j h2
        rw [show i + 1 + j = i + (j + 1) from by omega] at this
        rw [this, List.take_succ_cons, List.mem_cons, not_or]
        exact ⟨fun h => ⟨e, h⟩, fun h => h.2⟩
theorem rindex_l0 (x : Int) (l : List Int) (hl : l.length ≤ 4611686018427387904) (d : Nat) : ∀ (k i : Nat), i + d = l.length → d < k → soundserviceref06_Index.l0 k x l (l.length : Int) (i : Int) = some (fi x i (l.drop i)) := by
  induction d with
  | zero =>
    intro k i h hk
    obtain ⟨k, rfl⟩ : ∃ m, k = m + 1 := ⟨k - 1, by omega⟩
    rw [soundserviceref06_Index.l0, if_neg (by omega), List.drop_of_length_le (by omega)]; rfl
  | succ d ih =>
    intro k i h hk
    obtain ⟨k, rfl⟩ : ∃ m, k = m + 1 := ⟨k - 1, by omega⟩
    have hi : i < l.length := by omega
    rw [soundserviceref06_Index.l0, if_pos (by omega), if_pos (by omega), if_pos (by omega), rd_at l i hi, w64 (n := (i : Int) + 1) (by omega) (by omega), List.drop_eq_getElem_cons hi, fi]
    have h2 := ih k (i + 1) (by omega) (by omega)
    rw [Int.natCast_succ] at h2
    rw [h2]
    by_cases e : l[i] = x
    · rw [if_pos e, if_pos e.symm]
    · rw [if_neg e, if_neg (fun h => e h.symm)]
theorem rindex_f (k : Nat) (x : Int) (l : List Int) (hl : l.length ≤ 4611686018427387904) (hk : l.length < k) : soundserviceref06_Index.f k l x = some (fi x 0 l) := by
  unfold soundserviceref06_Index.f
  have := rindex_l0 x l hl l.length k 0 (by omega) hk
  rw [show ((0 : Nat) : Int) = 0 from rfl, List.drop_zero] at this
  exact this
theorem rvalid_l0 (m : List Int) (hl : m.length ≤ 1000000) (d : Nat) : ∀ (k i : Nat), i + d = m.length → d + m.length + 1 < k → soundserviceref06_Valid.l0 k m m (m.length : Int) (i : Int) = some (okf (m.take i) (m.drop i) && decide (1 ≤ m.length ∧ m.length ≤ 8)) := by
  induction d with
  | zero =>
    intro k i h hk
    obtain ⟨k, rfl⟩ : ∃ m, k = m + 1 := ⟨k - 1, by omega⟩
    rw [soundserviceref06_Valid.l0, if_neg (by omega), List.drop_of_length_le (by omega), okf, Bool.true_and]
    by_cases h1 : (m.length : Int) ≥ 1
    · rw [if_pos h1]; congr 1; rw [decide_eq_decide]; omega
    · rw [if_neg h1, decide_eq_false (by omega)]
  | succ d ih =>
    intro k i h hk
    obtain ⟨k, rfl⟩ : ∃ m, k = m + 1 := ⟨k - 1, by omega⟩
    have hi : i < m.length := by omega
    rw [soundserviceref06_Valid.l0, if_pos (by omega), if_pos (by omega), if_pos (by omega), rd_at m i hi, List.drop_eq_getElem_cons hi, okf]
    by_cases c1 : m[i] < 1
    · rw [if_pos c1, decide_eq_false (show ¬ (1 ≤ m[i] ∧ m[i] ≤ 8) by omega)]; rfl
    · rw [if_neg c1]
      by_cases c2 : m[i] > 8
      · rw [if_pos c2, decide_eq_false (show ¬ (1 ≤ m[i] ∧ m[i] ≤ 8) by omega)]; rfl
      · rw [if_neg c2, rindex_f k _ _ (by omega) (by omega), decide_eq_true (show 1 ≤ m[i] ∧ m[i] ≤ 8 by omega), Option.bind_some, Bool.true_and]
        have hf := fi_eq m[i] m 0 i (by simp [hi])
        rw [Nat.zero_add] at hf
        by_cases hm : m[i] ∈ m.take i
        · rw [if_neg (fun e => hf.1 e hm), decide_eq_true hm]; rfl
        · have h2 := ih k (i + 1) (by omega) (by omega)
          rw [Int.natCast_succ] at h2
          rw [if_pos (hf.2 hm), decide_eq_false hm, w64 (by omega) (by omega), h2, List.take_succ_eq_append_getElem hi]
          simp
theorem rvalid_f (m : List Int) (hl : m.length ≤ 1000000) (k : Nat) (hk : 2 * m.length + 1 < k) : soundserviceref06_Valid.f k m = some (vld m) := by
  unfold soundserviceref06_Valid.f vld
  have := rvalid_l0 m hl m.length k 0 (by omega) (by omega)
  rw [show ((0 : Nat) : Int) = 0 from rfl, List.drop_zero, List.take_zero, Bool.and_comm] at this
  exact this
/-! ### the reference's Parse -/
theorem idl_iff (x : List UInt8) (p : Int) (h1 : 1 ≤ p) (h2 : p ≤ 8) : idl x + 1 = p ↔ nml p = x := by
  constructor
  · intro h
    rcases idl_cases x with h3 | ⟨q, h3, h4, h5, h6⟩
    · omega
    · rw [h6]; congr 1; omega
  · rintro rfl
    rw [idl_nml p h1 h2]; omega
theorem names_at (j : Nat) (h1 : 1 ≤ j) (h2 : j ≤ 8) : ((⟨#[70, 76, 70, 82, 70, 67, 76, 70, 66, 76, 66, 82, 83, 76, 83, 82]⟩ : ByteArray).extract (2 * j - 2) (2 * j)) = nmOf j := by
  have : ∀ j : Fin 8, ((⟨#[70, 76, 70, 82, 70, 67, 76, 70, 66, 76, 66, 82, 83, 76, 83, 82]⟩ : ByteArray).extract (2 * (j.val + 1) - 2) (2 * (j.val + 1))) = nmOf ((j.val + 1 : Nat) : Int) := by decide +kernel
  have h := this ⟨j - 1, by omega⟩
  simp only [show j - 1 + 1 = j from by omega] at h
  exact h
theorem inner (s : ByteArray) (m : List Int) (at_ : Nat) (hs : at_ + 2 ≤ s.size) (hz : s.size ≤ 1000000) (P : Int) (hP : P = idl ((s.data.toList.drop at_).take 2) + 1) (d : Nat) : ∀ (k j : Nat) (p : Int), 1 ≤ j → j + d = 9 →
    soundserviceref06_Parse.l1 (k + d + 1) s m at_ p j = soundserviceref06_Parse.l1 (k + 1) s m at_ (if (j : Int) ≤ P then P else p) 9 := by
  have hPr : 0 ≤ P ∧ P ≤ 8 := by
    rcases idl_cases ((s.data.toList.drop at_).take 2) with h | ⟨q, h1, h2, h3, _⟩ <;> omega
  induction d with
  | zero =>
    intro k j p h1 h
    obtain rfl : j = 9 := by omega
    rw [if_neg (by omega)]; rfl
  | succ d ih =>
    intro k j p h1 h
    have e1 : wrap64 (2 * (j : Int)) = 2 * (j : Int) := w64 (by omega) (by omega)
    have e2 : wrap64 (2 * (j : Int) - 2) = 2 * (j : Int) - 2 := w64 (by omega) (by omega)
    have e3 : wrap64 ((at_ : Int) + 2) = (at_ : Int) + 2 := w64 (by omega) (by omega)
    have e4 : wrap64 ((j : Int) + 1) = ((j + 1 : Nat) : Int) := by rw [w64 (by omega) (by omega)]; omega
    have e5 : (2 * (j : Int)).toNat = 2 * j := by omega
    have e6 : (2 * (j : Int) - 2).toNat = 2 * j - 2 := by omega
    have e7 : ((at_ : Int) + 2).toNat = at_ + 2 := by omega
    have e8 : (s.extract at_ (at_ + 2)).toList = (s.data.toList.drop at_).take 2 := by
      rw [ByteArray.toList_eq, Lib.extract_data, Nat.add_sub_cancel_left]
    have hn : (nmOf (j : Int)).toList = nml j := ByteArray.toList_eq _
    rw [show k + (d + 1) + 1 = (k + d + 1) + 1 from rfl, soundserviceref06_Parse.l1, if_pos (by omega), e1, e2, e3, if_pos (by omega), if_pos (by omega), if_pos (by omega), if_pos (by omega), if_pos (by omega), if_pos (by omega), e4, e5, e6, e7, Int.toNat_natCast, names_at j h1 (by omega), e8, hn]
    have hi := idl_iff ((s.data.toList.drop at_).take 2) j (by omega) (by omega)
    rw [← hP] at hi
    by_cases hc : nml (j : Int) = (s.data.toList.drop at_).take 2
    · have := hi.2 hc
      rw [if_pos hc, ih k (j + 1) j (by omega) (by omega), if_neg (by omega), if_pos (by omega), this]
    · have : ¬ P = j := fun h => hc (hi.1 h)
      rw [if_neg hc, ih k (j + 1) p (by omega) (by omega)]
      by_cases h3 : (j : Int) ≤ P
      · rw [if_pos h3, if_pos (by omega)]
      · rw [if_neg h3, if_neg (by omega)]
theorem rparse (s : ByteArray) (hz : s.size ≤ 1000000) (d : Nat) : ∀ (at_ k : Nat) (m : List Int), at_ ≤ s.size → s.size - at_ < d → m.length ≤ at_ → 3000020 + 20 * d ≤ k →
    soundserviceref06_Parse.l0 k s m at_ = some (prl m (sp (s.data.toList.drop at_))) := by
  have hlen : s.data.toList.length = s.size := by rw [Array.length_toList]; rfl
  induction d with
  | zero => intro at_ k m _ h; omega
  | succ d ih =>
    intro at_ k m h1 h2 h3 h4
    obtain ⟨k, rfl⟩ : ∃ m, k = m + 8 + 1 + 1 := ⟨k - 10, by omega⟩
    rw [soundserviceref06_Parse.l0, w64 (by omega) (by omega)]
    by_cases hc : (s.size : Int) - at_ < 2
    · rw [if_pos hc, pl_short _ _ (by rw [List.length_drop, hlen]; omega)]
    · rw [if_neg hc]
      have h := inner s m at_ (by omega) hz _ rfl 8 k 1 0 (by omega) (by omega)
      rw [show ((1 : Nat) : Int) = 1 from rfl] at h
      rw [h, soundserviceref06_Parse.l1, if_neg (by decide)]
      have e3 : wrap64 ((at_ : Int) + 2) = (at_ : Int) + 2 := w64 (by omega) (by omega)
      have e4 : wrap64 ((at_ : Int) + 3) = ((at_ + 3 : Nat) : Int) := by rw [w64 (by omega) (by omega)]; omega
      have hR : s.data.toList.drop at_ = (s.data.toList.drop at_).take 2 ++ s.data.toList.drop (at_ + 2) := by
        have := (List.take_append_drop 2 (s.data.toList.drop at_)).symm
        rwa [List.drop_drop] at this
      rcases idl_cases ((s.data.toList.drop at_).take 2) with hi | ⟨p, hp1, hp2, hi, hx⟩
      · have e0 : (if (1 : Int) ≤ -1 + 1 then (-1 : Int) + 1 else 0) = 0 := by decide
        rw [hi, e0, if_pos rfl, pl_none _ _ hi]
      · have e0 : (if (1 : Int) ≤ p - 1 + 1 then p - 1 + 1 else 0) = p := by rw [if_pos (by omega)]; omega
        rw [hi, e0, if_neg (by omega), if_pos (by omega), Option.bind_some, e3]
        rw [hx] at hR
        by_cases he : (s.size : Int) = (at_ : Int) + 2
        · rw [if_pos he, rvalid_f _ (by rw [List.length_append]; simp; omega) k (by rw [List.length_append]; simp; omega), Option.bind_some, hR, List.drop_of_length_le (by omega), List.append_nil, pl_one _ _ hp1 hp2]
          split <;> rfl
        · have hlt : at_ + 2 < s.data.toList.length := by omega
          have hbt : bt s ((at_ : Int) + 2) = ((s.data.toList[at_ + 2]).toNat : Int) := by
            unfold bt
            rw [dif_pos (by omega)]
            have : ((at_ : Int) + 2).toNat = at_ + 2 := by omega
            simp only [this]
            rfl
          rw [if_neg he, if_pos (by omega), if_pos (by omega), hbt, hR, List.drop_eq_getElem_cons hlt, e4]
          by_cases hc2 : s.data.toList[at_ + 2] = 44
          · rw [hc2, if_pos (by decide), pl_more _ _ hp1 hp2, ih (at_ + 3) k _ (by omega) (by omega) (by rw [List.length_append]; simp; omega) (by omega)]
          · rw [if_neg (fun h => hc2 (by
              have h5 : (s.data.toList[at_ + 2]).toNat = 44 := by omega
              exact UInt8.toNat_inj.1 h5)), pl_long _ _ hp1 hp2 _ hc2]
theorem rparse_f (s : ByteArray) (hz : s.size ≤ 1000000) : ∀ k, 23000040 ≤ k → soundserviceref06_Parse.f k s = some (prs [] (pieces s)) := by
  intro k hk
  unfold soundserviceref06_Parse.f
  have := rparse s hz (s.size + 1) 0 k [] (by omega) (by omega) (by simp) (by omega)
  rw [show ((0 : Nat) : Int) = 0 from rfl, List.drop_zero] at this
  rw [this, prs_sp]
end Go.Proofs.YtglikjpnlgciiaaDoor.L
