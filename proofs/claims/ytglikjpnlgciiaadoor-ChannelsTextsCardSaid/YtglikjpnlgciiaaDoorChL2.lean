/- channels: the texts of maps; a map comes back from its text: plain lists. -/
import Derived.Test.YtglikjpnlgciiaaDoorChL
namespace Go.Proofs.YtglikjpnlgciiaaDoor.L
open Go Go.RowKit Go.Proofs.YtglikjpnlgciiaaDoor.Q Go.Proofs.YtglikjpnlgciiaaDoorW.PrintWords Go.Proofs.YtglikjpnlgciiaaDoorW.PrintLast Go.Proofs.YtglikjpnlgciiaaDoorW.PrintMore
set_option linter.unusedVariables false
set_option linter.unusedSimpArgs false
theorem ba_ext {a b : ByteArray} (h : a.data.toList = b.data.toList) : a = b := by
  cases a; cases b
  congr 1
  exact Array.ext' h
theorem ba_app (a b : ByteArray) : (a ++ b).data.toList = a.data.toList ++ b.data.toList := by
  rw [ByteArray.data_append, Array.toList_append]
theorem fmt_list (l : List Int) : (fmt l).data.toList = Lib.join (l.map nml) [44] := by
  unfold fmt
  simp only [List.map_map]
  rfl
theorem join_snoc (xs : List (List UInt8)) (x : List UInt8) (h : xs ≠ []) : Lib.join (xs ++ [x]) [44] = Lib.join xs [44] ++ 44 :: x := by
  induction xs with
  | nil => exact absurd rfl h
  | cons y ys ih =>
    cases ys with
    | nil => simp [Lib.join]
    | cons z zs =>
      have e : ∀ r : List (List UInt8), Lib.join (y :: z :: r) [44] = y ++ 44 :: Lib.join (z :: r) [44] := fun r => by simp [Lib.join, List.intercalate_cons_cons]
      have := ih (by simp)
      rw [List.cons_append, List.cons_append, e, e]
      rw [List.cons_append] at this
      rw [this, List.append_assoc]
      rfl
theorem fmt_snoc (l : List Int) (h : l ≠ []) (p : Int) : fmt (l ++ [p]) = (fmt l ++ (⟨#[44]⟩ : ByteArray)) ++ nmOf p := by
  apply ba_ext
  rw [ba_app, ba_app, fmt_list, fmt_list, List.map_append, List.map_singleton, join_snoc _ _ (by simpa using h), List.append_assoc]
  rfl
theorem fmt_one (p : Int) : fmt [p] = fmt [] ++ nmOf p := by
  apply ba_ext
  rw [ba_app, fmt_list, fmt_list, List.map_singleton, Lib.join_one]
  rfl
theorem fmt_size (l : List Int) : (fmt l).size ≤ 3 * l.length := by
  have h := join_len l
  have e : (fmt l).size = (fmt l).data.toList.length := by rw [Array.length_toList]; rfl
  rw [e]
  exact h
theorem nm_size (p : Int) : (nmOf p).size ≤ 2 := by
  have h := nm_len p
  rwa [Array.length_toList] at h
theorem nm_other (p : Int) (h : ¬ (1 ≤ p ∧ p ≤ 8)) : nmOf p = ⟨#[63]⟩ := by unfold nmOf; rw [if_neg h]; rfl
theorem sz1 (x : ByteArray) (n : Nat) (h : x.size ≤ n) (hn : n ≤ 4000000) (y : ByteArray) (hy : y.size ≤ 2) : x.size + y.size ≤ 9223372036854775807 := by omega
set_option maxHeartbeats 1000000 in
theorem rformat_l0 (l : List Int) (hl : l.length ≤ 1000000) (d : Nat) : ∀ (k i : Nat), i + d = l.length → d < k → soundserviceref06_Format.l0 k (fmt (l.take i)) l (l.length : Int) (i : Int) = some (fmt l) := by
  induction d with
  | zero =>
    intro k i h hk
    obtain ⟨k, rfl⟩ : ∃ m, k = m + 1 := ⟨k - 1, by omega⟩
    rw [soundserviceref06_Format.l0, if_neg (by omega), List.take_of_length_le (by omega)]
  | succ d ih =>
    intro k i h hk
    obtain ⟨k, rfl⟩ : ∃ m, k = m + 1 := ⟨k - 1, by omega⟩
    have hi : i < l.length := by omega
    have h2 := ih k (i + 1) (by omega) (by omega)
    rw [Int.natCast_succ, List.take_succ_eq_append_getElem hi] at h2
    have hs := fmt_size (l.take i)
    rw [List.length_take] at hs
    have hn := nm_size l[i]
    have hq : ((fmt (l.take i)) ++ (⟨#[44]⟩ : ByteArray)).size = (fmt (l.take i)).size + 1 := by rw [ByteArray.size_append]; rfl
    rw [soundserviceref06_Format.l0, if_pos (by omega), if_pos (by omega), if_pos (by omega), rd_at l i hi]
    generalize l[i] = p at h2 hn ⊢
    have e0 : wrap64 ((i : Int) + 1) = (i : Int) + 1 := w64 (by omega) (by omega)
    have key : ∀ acc : ByteArray, acc.size ≤ 4000000 → soundserviceref06_Format.l0 k (acc ++ nmOf p) l (l.length : Int) ((i : Int) + 1) = some (fmt l) →
        (if p ≥ 1 then (if p ≤ 8 then (if 0 ≤ (wrap64 ((wrap64 (2 * p)) - 2)) then (if (wrap64 ((wrap64 (2 * p)) - 2)) ≤ (wrap64 (2 * p)) then (if (wrap64 (2 * p)) ≤ 16 then (if acc.size + ((⟨#[70, 76, 70, 82, 70, 67, 76, 70, 66, 76, 66, 82, 83, 76, 83, 82]⟩ : ByteArray).extract ((wrap64 ((wrap64 (2 * p)) - 2)) : Int).toNat ((wrap64 (2 * p)) : Int).toNat).size ≤ 9223372036854775807 then (soundserviceref06_Format.l0 k (acc ++ ((⟨#[70, 76, 70, 82, 70, 67, 76, 70, 66, 76, 66, 82, 83, 76, 83, 82]⟩ : ByteArray).extract ((wrap64 ((wrap64 (2 * p)) - 2)) : Int).toNat ((wrap64 (2 * p)) : Int).toNat)) l (l.length : Int) ((i : Int) + 1)) else (none)) else (none)) else (none)) else (none)) else (if acc.size + 1 ≤ 9223372036854775807 then (soundserviceref06_Format.l0 k (acc ++ (⟨#[63]⟩ : ByteArray)) l (l.length : Int) ((i : Int) + 1)) else (none))) else (if acc.size + 1 ≤ 9223372036854775807 then (soundserviceref06_Format.l0 k (acc ++ (⟨#[63]⟩ : ByteArray)) l (l.length : Int) ((i : Int) + 1)) else (none))) = some (fmt l) := by
      intro acc ha hacc
      by_cases h1 : p ≥ 1
      · rw [if_pos h1]
        by_cases h3 : p ≤ 8
        · obtain ⟨j, rfl⟩ : ∃ j : Nat, p = j := ⟨p.toNat, by omega⟩
          have e1 : wrap64 (2 * (j : Int)) = 2 * (j : Int) := w64 (by omega) (by omega)
          have e2 : wrap64 (2 * (j : Int) - 2) = 2 * (j : Int) - 2 := w64 (by omega) (by omega)
          have e5 : (2 * (j : Int)).toNat = 2 * j := by omega
          have e6 : (2 * (j : Int) - 2).toNat = 2 * j - 2 := by omega
          rw [if_pos h3, e1, e2, if_pos (by omega), if_pos (by omega), if_pos (by omega), e5, e6, names_at j (by omega) (by omega), if_pos (by omega)]
          exact hacc
        · rw [nm_other p (by omega)] at hacc
          rw [if_neg h3, if_pos (by omega)]
          exact hacc
      · rw [nm_other p (by omega)] at hacc
        rw [if_neg h1, if_pos (by omega)]
        exact hacc
    rw [e0]
    by_cases hz : (i : Int) > 0
    · rw [if_pos hz, if_pos (by omega)]
      have hk2 := key (fmt (l.take i) ++ (⟨#[44]⟩ : ByteArray)) (by rw [hq]; omega) (by
        rw [fmt_snoc _ (by intro e; have := congrArg List.length e; rw [List.length_take, List.length_nil] at this; omega)] at h2
        exact h2)
      exact hk2
    · rw [if_neg hz]
      obtain rfl : i = 0 := by omega
      exact key (fmt (l.take 0)) (by omega) (by rw [List.take_zero, List.nil_append, fmt_one] at h2; rw [List.take_zero]; exact h2)
theorem rformat_f (l : List Int) (hl : l.length ≤ 1000000) (k : Nat) (hk : l.length < k) : soundserviceref06_Format.f k l = some (fmt l) := by
  unfold soundserviceref06_Format.f
  exact rformat_l0 l hl l.length k 0 (by omega) hk
/-! ### two lists -/
theorem rsame_l0 (a : List Int) (hl : a.length ≤ 4611686018427387904) (d : Nat) : ∀ (k i : Nat), i + d = a.length → d < k → soundserviceref06_Same.l0 k a a (a.length : Int) (i : Int) = some true := by
  induction d with
  | zero =>
    intro k i h hk
    obtain ⟨k, rfl⟩ : ∃ m, k = m + 1 := ⟨k - 1, by omega⟩
    rw [soundserviceref06_Same.l0, if_neg (by omega)]
  | succ d ih =>
    intro k i h hk
    obtain ⟨k, rfl⟩ : ∃ m, k = m + 1 := ⟨k - 1, by omega⟩
    have h2 := ih k (i + 1) (by omega) (by omega)
    rw [Int.natCast_succ] at h2
    rw [soundserviceref06_Same.l0, if_pos (by omega), if_pos (by omega), if_pos (by omega), if_pos (by omega), if_pos rfl, w64 (by omega) (by omega), h2]
theorem rsame_f (a : List Int) (hl : a.length ≤ 4611686018427387904) (k : Nat) (hk : a.length < k) : soundserviceref06_Same.f k a a = some true := by
  unfold soundserviceref06_Same.f
  rw [if_pos rfl]
  exact rsame_l0 a hl a.length k 0 (by omega) hk
/-! ### a map comes back from its text -/
theorem okf_range (m : List Int) : ∀ seen, okf seen m = true → ∀ p ∈ m, 1 ≤ p ∧ p ≤ 8 := by
  induction m with
  | nil => intro seen h p hp; simp at hp
  | cons q m ih =>
    intro seen h p hp
    rw [okf, Bool.and_eq_true, Bool.and_eq_true] at h
    rcases List.mem_cons.1 hp with rfl | hp
    · exact of_decide_eq_true h.1.1
    · exact ih _ h.2 p hp
theorem vld_range {m : List Int} (h : vld m = true) : (1 ≤ m.length ∧ m.length ≤ 8) ∧ ∀ p ∈ m, 1 ≤ p ∧ p ≤ 8 := by
  unfold vld at h
  rw [Bool.and_eq_true] at h
  exact ⟨of_decide_eq_true h.1, okf_range m [] h.2⟩
theorem prl_names (a : List Int) (h : ∀ p ∈ a, 1 ≤ p ∧ p ≤ 8) : ∀ m, prl m (a.map nml) = if vld (m ++ a) = true then (m ++ a, 0) else ([], 1) := by
  induction a with
  | nil => intro m; rw [List.map_nil, prl, List.append_nil]
  | cons p a ih =>
    intro m
    have hp := h p (by simp)
    rw [List.map_cons, prl, idl_nml p hp.1 hp.2, if_neg (by omega), show p - 1 + 1 = p from by omega, ih (fun q hq => h q (by simp [hq]))]
    simp
theorem prl_back (ps : List (List UInt8)) : ∀ m r, prl m ps = (r, 0) → ∃ a, r = m ++ a ∧ ps = a.map nml ∧ vld r = true := by
  induction ps with
  | nil =>
    intro m r h
    rw [prl] at h
    by_cases hv : vld m = true
    · rw [if_pos hv] at h
      obtain rfl : m = r := congrArg Prod.fst h
      exact ⟨[], by simp, rfl, hv⟩
    · rw [if_neg hv] at h
      exact absurd (congrArg Prod.snd h) (by simp)
  | cons x ps ih =>
    intro m r h
    rw [prl] at h
    rcases idl_cases x with h1 | ⟨p, h1, h2, h3, h4⟩
    · rw [if_pos (by omega)] at h
      exact absurd (congrArg Prod.snd h) (by simp)
    · rw [if_neg (by omega), h3, show p - 1 + 1 = p from by omega] at h
      obtain ⟨a, rfl, rfl, hv⟩ := ih _ _ h
      exact ⟨p :: a, by simp, by rw [List.map_cons, ← h4], hv⟩
theorem prl_err (ps : List (List UInt8)) : ∀ m, (prl m ps).2 ≠ 0 → (prl m ps).1 = [] := by
  induction ps with
  | nil => intro m; rw [prl]; split <;> simp
  | cons x ps ih =>
    intro m
    rw [prl]
    split
    · simp
    · exact ih _
theorem prl_len (ps : List (List UInt8)) : ∀ m, (prl m ps).1.length ≤ m.length + ps.length := by
  induction ps with
  | nil => intro m; rw [prl]; split <;> simp
  | cons x ps ih =>
    intro m
    rw [prl]
    split
    · simp
    · have := ih (m ++ [idl x + 1])
      simp only [List.length_append, List.length_cons, List.length_nil] at this ⊢
      omega
theorem prs_len (s : ByteArray) : (prs [] (pieces s)).1.length ≤ s.size + 1 := by
  have h := prl_len (sp s.data.toList) []
  rw [← prs_sp, ← pieces_sp, List.length_map, List.length_nil, Nat.zero_add] at h
  exact Nat.le_trans h (pieces_le s)
/-- Format, then Parse. -/
theorem back {a : List Int} (h : vld a = true) : prs [] (pieces (fmt a)) = (a, 0) := by
  obtain ⟨h1, h2⟩ := vld_range h
  rw [prs_sp, fmt_list, sp_join, prl_names a h2, List.nil_append, if_pos h]
  · intro e
    have := congrArg List.length e
    rw [List.length_map, List.length_nil] at this
    omega
  · intro x hx
    obtain ⟨p, hp, rfl⟩ := List.mem_map.1 hx
    exact nml_no p (h2 p hp).1 (h2 p hp).2
theorem fmt_inj {a b : List Int} (ha : vld a = true) (hb : vld b = true) : fmt a = fmt b ↔ a = b := by
  constructor
  · intro h
    have h1 := back ha
    rw [h, back hb] at h1
    exact (congrArg Prod.fst h1).symm
  · rintro rfl; rfl
/-- Parse, then Format. -/
theorem forth {s : ByteArray} {r : List Int} (h : prs [] (pieces s) = (r, 0)) : fmt r = s ∧ vld r = true := by
  rw [prs_sp] at h
  obtain ⟨a, e1, h2, h3⟩ := prl_back _ _ _ h
  rw [List.nil_append] at e1
  subst e1
  refine ⟨ba_ext ?_, h3⟩
  rw [fmt_list, ← h2, join_sp]
theorem prs_err {s : ByteArray} (h : (prs [] (pieces s)).2 ≠ 0) : (prs [] (pieces s)).1 = [] := by
  rw [prs_sp] at h ⊢
  exact prl_err _ _ h
end Go.Proofs.YtglikjpnlgciiaaDoor.L
