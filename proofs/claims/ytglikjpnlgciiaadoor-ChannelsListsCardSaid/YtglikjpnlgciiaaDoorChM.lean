/- channels: a map comes back from its text: plain lists (no word of the reference). -/
import Derived.Test.YtglikjpnlgciiaaDoorChSp
import Derived.Test.YtglikjpnlgciiaaDoorChP
namespace Go.Proofs.YtglikjpnlgciiaaDoor.L
open Go Go.RowKit Go.Proofs.YtglikjpnlgciiaaDoor.Q Go.Proofs.YtglikjpnlgciiaaDoorW.PrintWords Go.Proofs.YtglikjpnlgciiaaDoorW.PrintLast Go.Proofs.YtglikjpnlgciiaaDoorW.PrintMore
set_option linter.unusedVariables false
set_option linter.unusedSimpArgs false
def nml (p : Int) : List UInt8 := (nmOf p).data.toList
def idl (x : List UInt8) : Int := idx ⟨x.toArray⟩
def prl (m : List Int) : List (List UInt8) → List Int × Int
  | [] => if vld m = true then (m, 0) else ([], 1)
  | x :: r => if idl x < 0 then ([], 5) else prl (m ++ [idl x + 1]) r
theorem idl_of (x : ByteArray) : idl x.data.toList = idx x := by unfold idl; rw [Array.toArray_toList]
theorem prs_prl (ps : List ByteArray) : ∀ m, prs m ps = prl m (ps.map (·.data.toList)) := by
  induction ps with
  | nil => intro m; rfl
  | cons x r ih => intro m; rw [List.map_cons, prs, prl, idl_of, ih]
theorem pieces_sp (s : ByteArray) : (pieces s).map (·.data.toList) = sp s.data.toList := by
  unfold pieces
  rw [Lib.splitB_data]
  exact splitK_sp _
theorem prs_sp (s : ByteArray) : prs [] (pieces s) = prl [] (sp s.data.toList) := by rw [prs_prl, pieces_sp]
theorem idxFrom_cases (x : ByteArray) (zs : List ByteArray) : ∀ i, Lib.idxFromS zs x i = -1 ∨ ∃ k, k < zs.length ∧ Lib.idxFromS zs x i = ((i + k : Nat) : Int) ∧ zs[k]? = some x := by
  induction zs with
  | nil => intro i; exact .inl rfl
  | cons z zs ih =>
    intro i
    rw [Lib.idxFromS]
    by_cases h : z = x
    · exact .inr ⟨0, by simp, by rw [if_pos h]; simp, by simp [h]⟩
    · rw [if_neg h]
      rcases ih (i + 1) with h1 | ⟨k, h1, h2, h3⟩
      · exact .inl h1
      · exact .inr ⟨k + 1, by simp; omega, by rw [h2]; congr 1; omega, by simpa using h3⟩
theorem idl_cases (x : List UInt8) : idl x = -1 ∨ ∃ p : Int, 1 ≤ p ∧ p ≤ 8 ∧ idl x = p - 1 ∧ x = nml p := by
  rcases idxFrom_cases ⟨x.toArray⟩ (nmsL.drop 1) 0 with h | ⟨k, h1, h2, h3⟩
  · exact .inl h
  · refine .inr ⟨(k : Int) + 1, by omega, ?_, ?_, ?_⟩
    · have : (nmsL.drop 1).length = 8 := rfl
      omega
    · show Lib.idxFromS _ _ 0 = _
      rw [h2]; omega
    · have h4 : k < 8 := h1
      have h5 : nmOf ((k : Int) + 1) = nms (k + 1) := by unfold nmOf; rw [if_pos (by omega)]; congr 1
      unfold nml
      rw [h5]
      have h6 : (nmsL.drop 1)[k]? = some (nms (k + 1)) := by
        have : ∀ j : Fin 8, (nmsL.drop 1)[j.val]? = some (nms (j.val + 1)) := by decide +kernel
        exact this ⟨k, h4⟩
      rw [h3] at h6
      have := Option.some.inj h6
      rw [← this]
theorem ranged {P : Int → Prop} (h : ∀ j : Fin 8, P ((j.val : Int) + 1)) (p : Int) (h1 : 1 ≤ p) (h2 : p ≤ 8) : P p := by
  have := h ⟨(p - 1).toNat, by omega⟩
  rwa [show (((p - 1).toNat : Nat) : Int) + 1 = p from by omega] at this
theorem idl_nml (p : Int) (h1 : 1 ≤ p) (h2 : p ≤ 8) : idl (nml p) = p - 1 := ranged (P := fun p => idl (nml p) = p - 1) (by decide +kernel) p h1 h2
theorem nml_len (p : Int) (h1 : 1 ≤ p) (h2 : p ≤ 8) : (nml p).length = 2 := ranged (P := fun p => (nml p).length = 2) (by decide +kernel) p h1 h2
theorem nml_no (p : Int) (h1 : 1 ≤ p) (h2 : p ≤ 8) : ∀ c ∈ nml p, c ≠ 44 := ranged (P := fun p => ∀ c ∈ nml p, c ≠ 44) (by decide +kernel) p h1 h2
theorem sp_pre (x : List UInt8) (h : ∀ c ∈ x, c ≠ 44) (l : List UInt8) : sp (x ++ 44 :: l) = x :: sp l := by
  induction x with
  | nil => rw [List.nil_append, sp, if_pos rfl]
  | cons c x ih => rw [List.cons_append, sp, if_neg (h c (by simp)), ih (fun d hd => h d (by simp [hd]))]
theorem sp_all (x : List UInt8) (h : ∀ c ∈ x, c ≠ 44) : sp x = [x] := by
  induction x with
  | nil => rfl
  | cons c x ih => rw [sp, if_neg (h c (by simp)), ih (fun d hd => h d (by simp [hd]))]
theorem sp_hd (l : List UInt8) : ∃ t, sp l = l.takeWhile (fun c => !decide (c = 44)) :: t := by
  induction l with
  | nil => exact ⟨[], rfl⟩
  | cons c l ih =>
    obtain ⟨t, ht⟩ := ih
    by_cases h : c = 44
    · exact ⟨sp l, by rw [sp, if_pos h, List.takeWhile_cons]; simp [h]⟩
    · exact ⟨t, by rw [sp, if_neg h, ht, List.takeWhile_cons]; simp [h]⟩
theorem sp_join (xs : List (List UInt8)) (hne : xs ≠ []) (h : ∀ x ∈ xs, ∀ c ∈ x, c ≠ 44) : sp (Lib.join xs [44]) = xs := by
  induction xs with
  | nil => exact absurd rfl hne
  | cons x xs ih =>
    cases xs with
    | nil => rw [Lib.join_one]; exact sp_all x (h x (by simp))
    | cons y ys =>
      have e : Lib.join (x :: y :: ys) [44] = x ++ 44 :: Lib.join (y :: ys) [44] := by simp [Lib.join, List.intercalate_cons_cons]
      rw [e, sp_pre x (h x (by simp)), ih (by simp) (fun z hz => h z (by simp only [List.mem_cons] at hz ⊢; exact .inr hz))]
theorem join_sp (l : List UInt8) : Lib.join (sp l) [44] = l := by
  induction l with
  | nil => rfl
  | cons c l ih =>
    by_cases h : c = 44
    · rw [sp, if_pos h, h]
      cases hs : sp l with
      | nil => exact absurd hs (sp_ne l)
      | cons x r =>
        rw [hs] at ih
        rw [show Lib.join ([] :: x :: r) [44] = [] ++ 44 :: Lib.join (x :: r) [44] from by simp [Lib.join, List.intercalate_cons_cons], ih]
        rfl
    · rw [sp, if_neg h]
      cases hs : sp l with
      | nil => exact absurd hs (sp_ne l)
      | cons x r =>
        rw [hs] at ih
        cases r with
        | nil => rw [Lib.join_one] at ih; show Lib.join [c :: x] [44] = _; rw [Lib.join_one, ih]
        | cons y r =>
          rw [show Lib.join (x :: y :: r) [44] = x ++ 44 :: Lib.join (y :: r) [44] from by simp [Lib.join, List.intercalate_cons_cons]] at ih
          show Lib.join ((c :: x) :: y :: r) [44] = _
          rw [show Lib.join ((c :: x) :: y :: r) [44] = c :: (x ++ 44 :: Lib.join (y :: r) [44]) from by simp [Lib.join, List.intercalate_cons_cons], ih]
theorem ba_ext {a b : ByteArray} (h : a.data.toList = b.data.toList) : a = b := by
  cases a; cases b
  congr 1
  exact Array.ext' h
theorem ba_app (a b : ByteArray) : (a ++ b).data.toList = a.data.toList ++ b.data.toList := by
  rw [ByteArray.data_append, Array.toList_append]
theorem fmt_list (l : List Int) : (fmt l).data.toList = Lib.join (l.map nml) [44] := by
  unfold fmt
  simp only [List.map_map]
  rfl
theorem join_snoc (xs : List (List UInt8)) (x : List UInt8) (h : xs ≠ []) : Lib.join (xs ++ [x]) [44] = Lib.join xs [44] ++ 44 :: x := by
  induction xs with
  | nil => exact absurd rfl h
  | cons y ys ih =>
    cases ys with
    | nil => simp [Lib.join]
    | cons z zs =>
      have e : ∀ r : List (List UInt8), Lib.join (y :: z :: r) [44] = y ++ 44 :: Lib.join (z :: r) [44] := fun r => by simp [Lib.join, List.intercalate_cons_cons]
      have := ih (by simp)
      rw [List.cons_append, List.cons_append, e, e]
      rw [List.cons_append] at this
      rw [this, List.append_assoc]
      rfl
theorem fmt_snoc (l : List Int) (h : l ≠ []) (p : Int) : fmt (l ++ [p]) = (fmt l ++ (⟨#[44]⟩ : ByteArray)) ++ nmOf p := by
  apply ba_ext
  rw [ba_app, ba_app, fmt_list, fmt_list, List.map_append, List.map_singleton, join_snoc _ _ (by simpa using h), List.append_assoc]
  rfl
theorem fmt_size (l : List Int) : (fmt l).size ≤ 3 * l.length := by
  have h := join_len l
  have e : (fmt l).size = (fmt l).data.toList.length := by rw [Array.length_toList]; rfl
  rw [e]
  exact h
/-! ### a map comes back from its text -/
theorem okf_range (m : List Int) : ∀ seen, okf seen m = true → ∀ p ∈ m, 1 ≤ p ∧ p ≤ 8 := by
  induction m with
  | nil => intro seen h p hp; simp at hp
  | cons q m ih =>
    intro seen h p hp
    rw [okf, Bool.and_eq_true, Bool.and_eq_true] at h
    rcases List.mem_cons.1 hp with rfl | hp
    · exact of_decide_eq_true h.1.1
    · exact ih _ h.2 p hp
theorem vld_range {m : List Int} (h : vld m = true) : (1 ≤ m.length ∧ m.length ≤ 8) ∧ ∀ p ∈ m, 1 ≤ p ∧ p ≤ 8 := by
  unfold vld at h
  rw [Bool.and_eq_true] at h
  exact ⟨of_decide_eq_true h.1, okf_range m [] h.2⟩
theorem prl_names (a : List Int) (h : ∀ p ∈ a, 1 ≤ p ∧ p ≤ 8) : ∀ m, prl m (a.map nml) = if vld (m ++ a) = true then (m ++ a, 0) else ([], 1) := by
  induction a with
  | nil => intro m; rw [List.map_nil, prl, List.append_nil]
  | cons p a ih =>
    intro m
    have hp := h p (by simp)
    rw [List.map_cons, prl, idl_nml p hp.1 hp.2, if_neg (by omega), show p - 1 + 1 = p from by omega, ih (fun q hq => h q (by simp [hq]))]
    simp
theorem prl_back (ps : List (List UInt8)) : ∀ m r, prl m ps = (r, 0) → ∃ a, r = m ++ a ∧ ps = a.map nml ∧ vld r = true := by
  induction ps with
  | nil =>
    intro m r h
    rw [prl] at h
    by_cases hv : vld m = true
    · rw [if_pos hv] at h
      obtain rfl : m = r := congrArg Prod.fst h
      exact ⟨[], by simp, rfl, hv⟩
    · rw [if_neg hv] at h
      exact absurd (congrArg Prod.snd h) (by simp)
  | cons x ps ih =>
    intro m r h
    rw [prl] at h
    rcases idl_cases x with h1 | ⟨p, h1, h2, h3, h4⟩
    · rw [if_pos (by omega)] at h
      exact absurd (congrArg Prod.snd h) (by simp)
    · rw [if_neg (by omega), h3, show p - 1 + 1 = p from by omega] at h
      obtain ⟨a, rfl, rfl, hv⟩ := ih _ _ h
      exact ⟨p :: a, by simp, by rw [List.map_cons, ← h4], hv⟩
theorem prl_err (ps : List (List UInt8)) : ∀ m, (prl m ps).2 ≠ 0 → (prl m ps).1 = [] := by
  induction ps with
  | nil => intro m; rw [prl]; split <;> simp
  | cons x ps ih =>
    intro m
    rw [prl]
    split
    · simp
    · exact ih _
theorem prl_len (ps : List (List UInt8)) : ∀ m, (prl m ps).1.length ≤ m.length + ps.length := by
  induction ps with
  | nil => intro m; rw [prl]; split <;> simp
  | cons x ps ih =>
    intro m
    rw [prl]
    split
    · simp
    · have := ih (m ++ [idl x + 1])
      simp only [List.length_append, List.length_cons, List.length_nil] at this ⊢
      omega
theorem prs_len (s : ByteArray) : (prs [] (pieces s)).1.length ≤ s.size + 1 := by
  have h := prl_len (sp s.data.toList) []
  rw [← prs_sp, ← pieces_sp, List.length_map, List.length_nil, Nat.zero_add] at h
  exact Nat.le_trans h (pieces_le s)
/-- Format, then Parse. -/
theorem back {a : List Int} (h : vld a = true) : prs [] (pieces (fmt a)) = (a, 0) := by
  obtain ⟨h1, h2⟩ := vld_range h
  rw [prs_sp, fmt_list, sp_join, prl_names a h2, List.nil_append, if_pos h]
  · intro e
    have := congrArg List.length e
    rw [List.length_map, List.length_nil] at this
    omega
  · intro x hx
    obtain ⟨p, hp, rfl⟩ := List.mem_map.1 hx
    exact nml_no p (h2 p hp).1 (h2 p hp).2
theorem fmt_inj {a b : List Int} (ha : vld a = true) (hb : vld b = true) : fmt a = fmt b ↔ a = b := by
  constructor
  · intro h
    have h1 := back ha
    rw [h, back hb] at h1
    exact (congrArg Prod.fst h1).symm
  · rintro rfl; rfl
/-- Parse, then Format. -/
theorem forth {s : ByteArray} {r : List Int} (h : prs [] (pieces s) = (r, 0)) : fmt r = s ∧ vld r = true := by
  rw [prs_sp] at h
  obtain ⟨a, e1, h2, h3⟩ := prl_back _ _ _ h
  rw [List.nil_append] at e1
  subst e1
  refine ⟨ba_ext ?_, h3⟩
  rw [fmt_list, ← h2, join_sp]
theorem prs_err {s : ByteArray} (h : (prs [] (pieces s)).2 ≠ 0) : (prs [] (pieces s)).1 = [] := by
  rw [prs_sp] at h ⊢
  exact prl_err _ _ h
end Go.Proofs.YtglikjpnlgciiaaDoor.L
