-- Declarations of the text that this claim uses (slim.py, a program of this session).
import Derived.Test.YtobcpkeapjflhaaZComesV
namespace Go.Proofs.Ytobcpkeapjflhaa.ComesL
open Go.RowKit Go.Proofs.Ytobcpkeapjflhaa.Q Go.Proofs.YtobcpkeapjflhaaW.PrintWords Go.Proofs.YtobcpkeapjflhaaW.PrintLast Go.Proofs.YtobcpkeapjflhaaW.PrintMore
set_option linter.unusedVariables false
set_option linter.unusedSimpArgs false
theorem w64 {n : Int} (h0 : -9223372036854775808 ≤ n) (h1 : n ≤ 9223372036854775807) : wrap64 n = n := by unfold wrap64; omega
theorem u64 {n : Int} (h0 : 0 ≤ n) (h1 : n ≤ 18446744073709551615) : IntKind.u64.wrap n = n := by
  have : IntKind.u64.wrap n = n % 18446744073709551616 := by simp [IntKind.wrap, IntKind.bits, IntKind.signed]
  rw [this]; omega
theorem sane_f (k : Nat) (hk : 12 ≤ k) : soundservicelaw33_sane.f k = some true :=
  at_rounds (g := fun k => soundservicelaw33_sane.f k) (fun k => soundservicelaw33_sane.mono k) hk (by decide +kernel)
theorem mod_f (a m : Int) (h0 : 1 ≤ m) (h1 : m ≤ 4611686018427387904) : soundservicemill_Mod.f a m = some (a % m) := by
  have h3 : Int.tmod a m = a % m ∨ (Int.tmod a m = a % m - m ∧ a < 0) := by
    rcases Int.lt_or_le a 0 with hn | hn
    · by_cases hd : a % m = 0
      · left; rw [hd]; exact Int.tmod_eq_zero_of_dvd (Int.dvd_of_emod_eq_zero hd)
      · right
        refine ⟨?_, hn⟩
        rw [Int.tmod_eq_emod]
        have hnd : ¬ m ∣ a := fun hd2 => hd (Int.emod_eq_zero_of_dvd hd2)
        rw [if_neg (by omega)]
        omega
    · left; exact Int.tmod_eq_emod_of_nonneg hn
  have h4 : 0 ≤ a % m := Int.emod_nonneg _ (by omega)
  have h5 : a % m < m := Int.emod_lt_of_pos _ (by omega)
  unfold soundservicemill_Mod.f
  rw [if_neg (by omega)]
  rcases h3 with e | ⟨e, hn⟩
  · rw [e, if_neg (by omega)]
  · rw [e]
    by_cases hd : a % m - m < 0
    · rw [if_pos hd, w64 (by omega) (by omega)]; congr 1; omega
    · omega
abbrev T := S68
def asc (b : Int) : List T → Bool
  | [] => true
  | x :: l => decide (b < x.f0 ∧ 0 ≤ x.f1 ∧ x.f1 ≤ 1099511627776) && asc x.f0 l
theorem rd_at (l : List T) (i : Nat) (h : i < l.length) : rd_T68 l (i : Int) = l[i] := by
  unfold rd_T68
  simp [h]
theorem valid_l0 (l : List T) (hl : l.length ≤ 4611686018427387904) (d : Nat) : ∀ (k i : Nat) (b : Int), i + d = l.length → d < k →
    plug_Valid.l0 k b l (l.length : Int) (i : Int) = some (asc b (l.drop i)) := by
  induction d with
  | zero =>
    intro k i b h hk
    obtain ⟨k, rfl⟩ : ∃ m, k = m + 1 := ⟨k - 1, by omega⟩
    rw [plug_Valid.l0, if_neg (by omega), List.drop_of_length_le (by omega)]; rfl
  | succ d ih =>
    intro k i b h hk
    obtain ⟨k, rfl⟩ : ∃ m, k = m + 1 := ⟨k - 1, by omega⟩
    have hi : i < l.length := by omega
    rw [plug_Valid.l0, if_pos (by omega), if_pos (by omega), if_pos (by omega), rd_at l i hi, w64 (n := (i : Int) + 1) (by omega) (by omega), List.drop_eq_getElem_cons hi]
    have h2 := ih k (i + 1) l[i].f0 (by omega) (by omega)
    rw [Int.natCast_succ] at h2
    rw [h2, asc]
    by_cases h1 : l[i].f0 ≤ b
    · rw [if_pos h1, decide_eq_false (by omega)]; rfl
    · rw [if_neg h1]
      by_cases h3 : l[i].f1 < 0
      · rw [if_pos h3, decide_eq_false (by omega)]; rfl
      · rw [if_neg h3]
        by_cases h4 : l[i].f1 > 1099511627776
        · rw [if_pos h4, decide_eq_false (by omega)]; rfl
        · rw [if_neg h4, decide_eq_true (by omega)]; rfl
def vd (s : Int) (l : List T) : Bool := decide (0 ≤ s ∧ s ≤ 4096 ∧ l.length ≤ 8) && asc 0 l
theorem valid_f (k : Nat) (hk : 12 ≤ k) (s : Int) (l : List T) : plug_Valid.f k s l = some (vd s l) := by
  obtain ⟨k, rfl⟩ : ∃ m, k = m + 1 := ⟨k - 1, by omega⟩
  unfold plug_Valid.f vd
  simp only [plug_Valid.j0]
  by_cases h1 : s < 0
  · rw [if_pos h1, decide_eq_false (by omega)]; rfl
  · rw [if_neg h1]
    by_cases h2 : s > 4096
    · rw [if_pos h2, decide_eq_false (by omega)]; rfl
    · rw [if_neg h2]
      by_cases h3 : (l.length : Int) > 8
      · rw [decide_eq_true h3, decide_eq_false (by omega)]; rfl
      · rw [decide_eq_false h3, decide_eq_true (by omega)]
        have := valid_l0 l (by omega) l.length k 0 0 (by omega) (by omega)
        simp only [Bool.false_eq_true, if_false, Bool.true_and]
        exact this
theorem ready_l0 (at_ s x x' : Int) (l y : List T) (hl : l.length ≤ 8) (d : Nat) : ∀ (k i : Nat) (o : List Int), i + d = l.length → d < k → o.length ≤ i →
    plug_Ready.l0 k at_ o l (l.length : Int) (i : Int) s y = some (o ++ ((l.drop i).filter (fun x => decide (x.f1 ≤ wrap64 (at_ - s)))).map (·.f0)) := by
  induction d with
  | zero =>
    intro k i o h hk ho
    obtain ⟨k, rfl⟩ : ∃ m, k = m + 1 := ⟨k - 1, by omega⟩
    rw [plug_Ready.l0, if_neg (by omega), List.drop_of_length_le (by omega)]; simp
  | succ d ih =>
    intro k i o h hk ho
    obtain ⟨k, rfl⟩ : ∃ m, k = m + 1 := ⟨k - 1, by omega⟩
    have hi : i < l.length := by omega
    rw [plug_Ready.l0, if_pos (by omega), if_pos (by omega), if_pos (by omega), rd_at l i hi, w64 (n := (i : Int) + 1) (by omega) (by omega), List.drop_eq_getElem_cons hi]
    by_cases h1 : l[i].f1 ≤ wrap64 (at_ - s)
    · have h2 := ih k (i + 1) (o ++ [l[i].f0]) (by omega) (by omega) (by rw [List.length_append, List.length_singleton]; omega)
      rw [Int.natCast_succ] at h2
      rw [if_pos h1, if_pos (by omega), h2, List.filter_cons, if_pos (by simpa using h1)]
      simp
    · have h2 := ih k (i + 1) o (by omega) (by omega) (by omega)
      rw [Int.natCast_succ] at h2
      rw [if_neg h1, h2, List.filter_cons, if_neg (by simpa using h1)]
def rdy (s : Int) (l : List T) (at_ : Int) : List Int := if vd s l = true ∧ 0 ≤ at_ ∧ at_ ≤ 1099511627776 then (l.filter (fun x => decide (x.f1 ≤ wrap64 (at_ - s)))).map (·.f0) else []
theorem ready_f (k : Nat) (hk : 12 ≤ k) (s : Int) (l : List T) (at_ : Int) : plug_Ready.f k s l at_ = some (rdy s l at_) := by
  unfold plug_Ready.f rdy
  rw [valid_f k hk]
  obtain ⟨k, rfl⟩ : ∃ m, k = m + 1 := ⟨k - 1, by omega⟩
  simp only [Option.bind_some, plug_Ready.j0]
  cases hv : vd s l
  · simp
  · have hlen : l.length ≤ 8 := by unfold vd at hv; simp at hv; omega
    rw [if_pos rfl]
    by_cases h1 : at_ < 0
    · rw [if_pos h1, if_pos trivial, if_neg (by omega)]
    · rw [if_neg h1]
      by_cases h2 : at_ > 1099511627776
      · rw [decide_eq_true h2, if_pos rfl, if_neg (by omega)]
      · rw [decide_eq_false h2, if_neg (by simp), if_pos ⟨rfl, by omega, by omega⟩]
        have := ready_l0 at_ s 0 0 l l hlen l.length k 0 [] (by omega) (by omega) (by simp)
        simpa using this
theorem bs_le (cf : T → Int) (l : List T) (k : Nat) : ∀ i j, i ≤ j → bsISg cf l k i j ≤ j := by
  induction k with
  | zero => intro i j h; exact h
  | succ k ih =>
    intro i j h
    rw [bsISg]
    split
    · split
      · exact ih _ _ (by omega)
      · exact Nat.le_trans (ih _ _ (by omega)) (by omega)
    · exact h
def place (l : List T) (id : Int) : Nat := bsISg (fun x => cmp3 x.f0 id) l l.length 0 l.length
def found (l : List T) (id : Int) : Bool := decide (place l id < l.length) && decide (cmp3 (l.getD (place l id) z68).f0 id = 0)
theorem place_le (l : List T) (id : Int) : place l id ≤ l.length := bs_le _ l _ 0 _ (Nat.zero_le _)
theorem search_f (s : Int) (l : List T) (id : Int) : plug_search.f s l id = some ((place l id : Int), found l id) := rfl
def plg (s : Int) (l : List T) (id at_ : Int) : Int × List T × Int :=
  if vd s l = true then (if id = 0 ∨ at_ < 0 ∨ at_ > 1099511627776 then (0, [], 2) else if found l id = true then (0, [], 8) else if l.length ≥ 8 then (0, [], 3) else (s, l.take (place l id) ++ [⟨id, at_⟩] ++ l.drop (place l id), 0)) else (0, [], 1)
theorem plug_f (k : Nat) (hk : 12 ≤ k) (s : Int) (l : List T) (id at_ : Int) : plug_Plug.f k s l id at_ = some (plg s l id at_) := by
  unfold plug_Plug.f plg
  rw [search_f, valid_f k hk]
  obtain ⟨k, rfl⟩ : ∃ m, k = m + 1 := ⟨k - 1, by omega⟩
  simp only [Option.bind_some, plug_Plug.j0]
  cases hv : vd s l
  · simp
  · have hlen : l.length ≤ 8 := by unfold vd at hv; simp at hv; omega
    have hp := place_le l id
    have hins : slices_Insert_Sg.f l (place l id : Int) [⟨id, at_⟩] = some (l.take (place l id) ++ [⟨id, at_⟩] ++ l.drop (place l id)) := by
      unfold slices_Insert_Sg.f
      rw [if_pos ⟨by omega, by omega, rfl, by omega⟩, Int.toNat_natCast]
    have hclo : slices_Clone_Sg.f l = some l := by unfold slices_Clone_Sg.f; rw [if_pos (by omega)]
    rw [if_pos rfl, if_pos rfl, hclo]
    simp only [Option.bind_some, hins]
    by_cases h1 : id = 0
    · rw [if_pos h1, if_pos trivial, if_pos (.inl h1)]
    · rw [if_neg h1]
      by_cases h2 : at_ < 0
      · rw [if_pos h2, if_pos trivial, if_pos (.inr (.inl h2))]
      · rw [if_neg h2]
        by_cases h3 : at_ > 1099511627776
        · rw [decide_eq_true h3, if_pos rfl, if_pos (.inr (.inr h3))]
        · have hn : ¬ (id = 0 ∨ at_ < 0 ∨ at_ > 1099511627776) := by omega
          rw [decide_eq_false h3, if_neg (by simp), if_neg hn]
          cases hf : found l id
          · simp only [Bool.false_eq_true, if_false]
            by_cases h4 : l.length ≥ 8
            · rw [if_pos (by omega), if_pos h4]
            · rw [if_neg (by omega), if_neg h4]
          · simp
def upl (s : Int) (l : List T) (id : Int) : Int × List T × Int := if vd s l = true then (if found l id = true then (s, l.eraseIdx (place l id), 0) else (0, [], 7)) else (0, [], 1)
theorem unplug_f (k : Nat) (hk : 12 ≤ k) (s : Int) (l : List T) (id : Int) : plug_Unplug.f k s l id = some (upl s l id) := by
  unfold plug_Unplug.f upl
  rw [search_f, valid_f k hk]
  simp only [Option.bind_some]
  cases hv : vd s l
  · simp
  · have hlen : l.length ≤ 8 := by unfold vd at hv; simp at hv; omega
    rw [if_pos rfl, if_pos rfl]
    cases hf : found l id
    · simp
    · have hp : place l id < l.length := by unfold found at hf; simp at hf; exact hf.1
      have hclo : slices_Clone_Sg.f l = some l := by unfold slices_Clone_Sg.f; rw [if_pos (by omega)]
      have hdel : slices_Delete_Sg.f l (place l id : Int) ((place l id : Int) + 1) = some (l.eraseIdx (place l id)) := by
        unfold slices_Delete_Sg.f
        rw [if_pos ⟨by omega, rfl, by omega⟩, Int.toNat_natCast]
      rw [if_pos rfl, if_pos rfl, hclo, w64 (n := (place l id : Int) + 1) (by omega) (by omega)]
      simp only [Option.bind_some, hdel]
theorem rvalid_l0 (s : Int) (l : List T) (hl : l.length ≤ 8) (d : Nat) : ∀ (k i : Nat) (b : Int), i + d = l.length → d < k → 0 ≤ b → (i = 0 → b = 0) → (∀ h : 0 < i ∧ i - 1 < l.length, b = (l[i - 1]'h.2).f0) →
    soundserviceref33_Valid.l0 k (i : Int) s l = some (asc b (l.drop i)) := by
  induction d with
  | zero =>
    intro k i b h hk hb h0 h1
    obtain ⟨k, rfl⟩ : ∃ m, k = m + 1 := ⟨k - 1, by omega⟩
    rw [soundserviceref33_Valid.l0, if_neg (by omega), List.drop_of_length_le (by omega)]; rfl
  | succ d ih =>
    intro k i b h hk hb h0 h1
    obtain ⟨k, rfl⟩ : ∃ m, k = m + 1 := ⟨k - 1, by omega⟩
    have hi : i < l.length := by omega
    rw [soundserviceref33_Valid.l0, if_pos (by omega), if_pos (by omega), rd_at l i hi, w64 (n := (i : Int) + 1) (by omega) (by omega), List.drop_eq_getElem_cons hi]
    have h2 := fun (hq : 0 ≤ l[i].f0) => ih k (i + 1) l[i].f0 (by omega) (by omega) hq (by omega) (by intro h; rfl)
    rw [Int.natCast_succ] at h2
    rw [asc]
    by_cases c1 : l[i].f0 < 1
    · rw [if_pos c1, decide_eq_false (by omega)]; rfl
    · rw [if_neg c1, h2 (by omega)]
      by_cases c0 : i = 0
      · subst c0
        rw [if_neg (by omega), h0 rfl]
        by_cases c3 : l[0].f1 < 0
        · rw [if_pos c3, decide_eq_false (by omega)]; rfl
        · rw [if_neg c3]
          by_cases c4 : l[0].f1 > 1099511627776
          · rw [if_pos c4, decide_eq_false (by omega)]; rfl
          · rw [if_neg c4, decide_eq_true (by omega)]; rfl
      · have e1 : wrap64 ((i : Int) - 1) = ((i - 1 : Nat) : Int) := by rw [w64 (by omega) (by omega)]; omega
        have hb1 := h1 ⟨by omega, by omega⟩
        rw [if_pos (by omega), e1, if_pos (by omega), if_pos (by omega), rd_at l (i - 1) (by omega), ← hb1]
        by_cases c5 : l[i].f0 ≤ b
        · rw [if_pos c5, decide_eq_false (by omega)]; rfl
        · rw [if_neg c5]
          by_cases c3 : l[i].f1 < 0
          · rw [if_pos c3, decide_eq_false (by omega)]; rfl
          · rw [if_neg c3]
            by_cases c4 : l[i].f1 > 1099511627776
            · rw [if_pos c4, decide_eq_false (by omega)]; rfl
            · rw [if_neg c4, decide_eq_true (by omega)]; rfl
theorem rvalid_f (k : Nat) (hk : 12 ≤ k) (s : Int) (l : List T) : soundserviceref33_Valid.f k s l = some (vd s l) := by
  obtain ⟨k, rfl⟩ : ∃ m, k = m + 1 := ⟨k - 1, by omega⟩
  unfold soundserviceref33_Valid.f vd
  simp only [soundserviceref33_Valid.j0]
  by_cases h1 : s < 0
  · rw [if_pos h1, decide_eq_false (by omega)]; rfl
  · rw [if_neg h1]
    by_cases h2 : s > 4096
    · rw [if_pos h2, decide_eq_false (by omega)]; rfl
    · rw [if_neg h2]
      by_cases h3 : (l.length : Int) > 8
      · rw [decide_eq_true h3, decide_eq_false (by omega)]; rfl
      · rw [decide_eq_false h3, decide_eq_true (by omega)]
        have := rvalid_l0 s l (by omega) l.length k 0 0 (by omega) (by omega) (by omega) (by simp) (by intro h; omega)
        simp only [Bool.false_eq_true, if_false, Bool.true_and]
        exact this
def cnt (id : Int) : List T → Nat
  | [] => 0
  | x :: l => if x.f0 < id then cnt id l + 1 else 0
def fnd (id : Int) : List T → Bool
  | [] => false
  | x :: l => if x.f0 < id then fnd id l else decide (x.f0 = id)
theorem cnt_le (id : Int) (l : List T) : cnt id l ≤ l.length := by
  induction l with
  | nil => exact Nat.le_refl _
  | cons x l ih => rw [cnt]; split <;> simp <;> omega
theorem asc_gt (l : List T) : ∀ b, asc b l = true → ∀ m (h : m < l.length), b < (l[m]'h).f0 := by
  induction l with
  | nil => intro b h m hm; simp at hm
  | cons x l ih =>
    intro b h m hm
    rw [asc, Bool.and_eq_true, decide_eq_true_eq] at h
    cases m with
    | zero => exact h.1.1
    | succ m =>
      have := ih _ h.2 m (by simpa using hm)
      simp only [List.getElem_cons_succ]
      omega
theorem cnt_iff (id : Int) (l : List T) : ∀ b, asc b l = true → ∀ m (h : m < l.length), (l[m]'h).f0 < id ↔ m < cnt id l := by
  induction l with
  | nil => intro b h m hm; simp at hm
  | cons x l ih =>
    intro b h m hm
    have h' := h
    rw [asc, Bool.and_eq_true, decide_eq_true_eq] at h
    rw [cnt]
    by_cases hx : x.f0 < id
    · rw [if_pos hx]
      cases m with
      | zero => simp [hx]
      | succ m =>
        have := ih _ h.2 m (by simpa using hm)
        simp only [List.getElem_cons_succ]
        omega
    · rw [if_neg hx]
      cases m with
      | zero => simp [hx]
      | succ m =>
        have := asc_gt l _ h.2 m (by simpa using hm)
        simp only [List.getElem_cons_succ]
        omega
theorem fnd_iff (id : Int) (l : List T) : fnd id l = (decide (cnt id l < l.length) && decide ((l.getD (cnt id l) z68).f0 = id)) := by
  induction l with
  | nil => rfl
  | cons x l ih =>
    rw [fnd, cnt]
    by_cases hx : x.f0 < id
    · rw [if_pos hx, if_pos hx, ih]
      simp
    · rw [if_neg hx, if_neg hx]
      simp
theorem cmp3_lt (a b : Int) : cmp3 a b < 0 ↔ a < b := by unfold cmp3; split; · omega
                                                         · split <;> omega
theorem cmp3_eq (a b : Int) : cmp3 a b = 0 ↔ a = b := by unfold cmp3; split; · omega
                                                         · split <;> omega
theorem bs_cnt (id b : Int) (l : List T) (ha : asc b l = true) (k : Nat) : ∀ i j, i ≤ cnt id l → cnt id l ≤ j → j ≤ l.length → j - i ≤ k → bsISg (fun x => cmp3 x.f0 id) l k i j = cnt id l := by
  induction k with
  | zero => intro i j h1 h2 h3 h4; rw [bsISg]; omega
  | succ k ih =>
    intro i j h1 h2 h3 h4
    rw [bsISg]
    by_cases hij : i < j
    · rw [if_pos hij]
      have hm : (i + j) / 2 < l.length := by omega
      have hg : l.getD ((i + j) / 2) z68 = l[(i + j) / 2] := by simp [List.getD_eq_getElem?_getD, hm]
      rw [hg]
      have hc := cnt_iff id l b ha _ hm
      by_cases hlt : l[(i + j) / 2].f0 < id
      · rw [if_pos ((cmp3_lt _ _).2 hlt)]
        have := hc.1 hlt
        exact ih _ _ (by omega) h2 h3 (by omega)
      · rw [if_neg (fun h => hlt ((cmp3_lt _ _).1 h))]
        have : ¬ (i + j) / 2 < cnt id l := fun h => hlt (hc.2 h)
        exact ih _ _ h1 (by omega) (by omega) (by omega)
    · rw [if_neg hij]; omega
theorem place_cnt (id b : Int) (l : List T) (ha : asc b l = true) : place l id = cnt id l := bs_cnt id b l ha _ _ _ (Nat.zero_le _) (cnt_le _ _) (Nat.le_refl _) (by omega)
theorem found_fnd (id b : Int) (l : List T) (ha : asc b l = true) : found l id = fnd id l := by
  unfold found
  rw [place_cnt id b l ha, fnd_iff]
  congr 1
  exact decide_eq_decide.2 (cmp3_eq _ _)
def fi (id : Int) (i : Nat) : List T → Int
  | [] => -1
  | x :: l => if x.f0 = id then (i : Int) else fi id (i + 1) l
theorem rplace_l0 (s id : Int) (l : List T) (hl : l.length ≤ 8) (d : Nat) : ∀ (k i : Nat), i + d = l.length → d < k → soundserviceref33_place.l0 k id (i : Int) s l = some (fi id i (l.drop i)) := by
  induction d with
  | zero =>
    intro k i h hk
    obtain ⟨k, rfl⟩ : ∃ m, k = m + 1 := ⟨k - 1, by omega⟩
    rw [soundserviceref33_place.l0, if_neg (by omega), List.drop_of_length_le (by omega)]; rfl
  | succ d ih =>
    intro k i h hk
    obtain ⟨k, rfl⟩ : ∃ m, k = m + 1 := ⟨k - 1, by omega⟩
    have hi : i < l.length := by omega
    rw [soundserviceref33_place.l0, if_pos (by omega), if_pos (by omega), rd_at l i hi, w64 (n := (i : Int) + 1) (by omega) (by omega), List.drop_eq_getElem_cons hi, fi]
    have h2 := ih k (i + 1) (by omega) (by omega)
    rw [Int.natCast_succ] at h2
    rw [h2]
    split <;> rfl
theorem fi_none (id : Int) (l : List T) : ∀ b i, asc b l = true → id ≤ b → fi id i l = -1 := by
  induction l with
  | nil => intro b i h hb; rfl
  | cons x l ih =>
    intro b i h hb
    rw [asc, Bool.and_eq_true, decide_eq_true_eq] at h
    rw [fi, if_neg (by omega)]
    exact ih _ _ h.2 (by omega)
theorem fi_fnd (id : Int) (l : List T) : ∀ b i, asc b l = true → fi id i l = if fnd id l = true then ((i + cnt id l : Nat) : Int) else -1 := by
  induction l with
  | nil => intro b i h; rfl
  | cons x l ih =>
    intro b i h
    rw [asc, Bool.and_eq_true, decide_eq_true_eq] at h
    rw [fi, fnd, cnt]
    by_cases hx : x.f0 < id
    · rw [if_neg (by omega), if_pos hx, if_pos hx, ih _ _ h.2, show i + 1 + cnt id l = i + (cnt id l + 1) from by omega]
    · rw [if_neg hx, if_neg hx]
      by_cases he : x.f0 = id
      · simp [he]
      · rw [if_neg he, fi_none id l _ _ h.2 (by omega)]
        simp [he]
theorem rplace_f (k : Nat) (hk : 12 ≤ k) (s id b : Int) (l : List T) (hl : l.length ≤ 8) (ha : asc b l = true) : soundserviceref33_place.f k s l id = some (if fnd id l = true then (cnt id l : Int) else -1) := by
  unfold soundserviceref33_place.f
  have := rplace_l0 s id l hl l.length k 0 (by omega) (by omega)
  rw [show ((0 : Nat) : Int) = 0 from rfl] at this
  rw [this, List.drop_zero, fi_fnd id l b 0 ha, Nat.zero_add]
theorem vd_asc {s : Int} {l : List T} (h : vd s l = true) : l.length ≤ 8 ∧ asc 0 l = true := by
  unfold vd at h
  rw [Bool.and_eq_true, decide_eq_true_eq] at h
  exact ⟨h.1.2.2, h.2⟩
theorem rplug_l0 (s id at_ b : Int) (l : List T) (hl : l.length ≤ 8) (ha : asc b l = true) (d : Nat) : ∀ (k i : Nat), i + d = cnt id l → d < k →
    soundserviceref33_Plug.l0 k id at_ (l.take i) (i : Int) s l = some (s, l.take (cnt id l) ++ [⟨id, at_⟩] ++ l.drop (cnt id l), 0) := by
  have hc := cnt_le id l
  induction d with
  | zero =>
    intro k i h hk
    obtain rfl : i = cnt id l := by omega
    obtain ⟨k, rfl⟩ : ∃ m, k = m + 1 := ⟨k - 1, by omega⟩
    have ht : (l.take (cnt id l)).length = cnt id l := by rw [List.length_take]; omega
    rw [soundserviceref33_Plug.l0]
    by_cases hi : cnt id l < l.length
    · have hn := fun h => Nat.lt_irrefl _ ((cnt_iff id l b ha _ hi).1 h)
      rw [if_pos (by omega), if_pos (by omega), rd_at l _ hi, if_neg hn, ht, if_pos (by omega)]
      simp only [Option.bind_some]
      rw [if_pos (by omega), if_pos (by omega), Int.toNat_natCast, if_pos (by simp; omega)]
    · rw [if_neg (by omega), ht, if_pos (by omega)]
      simp only [Option.bind_some]
      rw [if_pos (by omega), if_pos (by omega), Int.toNat_natCast, if_pos (by simp; omega)]
  | succ d ih =>
    intro k i h hk
    obtain ⟨k, rfl⟩ : ∃ m, k = m + 1 := ⟨k - 1, by omega⟩
    have hi : i < l.length := by omega
    have ht : (l.take i).length = i := by rw [List.length_take]; omega
    rw [soundserviceref33_Plug.l0, if_pos (by omega), if_pos (by omega), rd_at l i hi, if_pos ((cnt_iff id l b ha _ hi).2 (by omega)), ht, if_pos (by omega), w64 (n := (i : Int) + 1) (by omega) (by omega)]
    have h2 := ih k (i + 1) (by omega) (by omega)
    rw [Int.natCast_succ] at h2
    rw [← h2]
    congr 1
    rw [List.take_succ_eq_append_getElem hi]
theorem rplug_f (k : Nat) (hk : 14 ≤ k) (s : Int) (l : List T) (id at_ : Int) : soundserviceref33_Plug.f k s l id at_ = some (plg s l id at_) := by
  unfold soundserviceref33_Plug.f plg
  rw [rvalid_f k (by omega)]
  obtain ⟨k, rfl⟩ : ∃ m, k = m + 1 := ⟨k - 1, by omega⟩
  simp only [Option.bind_some, soundserviceref33_Plug.j0]
  cases hv : vd s l
  · simp
  · obtain ⟨hlen, ha⟩ := vd_asc hv
    rw [if_pos rfl, if_pos rfl, rplace_f k (by omega) s id 0 l hlen ha, found_fnd id 0 l ha, place_cnt id 0 l ha]
    simp only [Option.bind_some]
    by_cases h1 : id = 0
    · rw [if_pos h1, if_pos trivial, if_pos (.inl h1)]
    · rw [if_neg h1]
      by_cases h2 : at_ < 0
      · rw [if_pos h2, if_pos trivial, if_pos (.inr (.inl h2))]
      · rw [if_neg h2]
        by_cases h3 : at_ > 1099511627776
        · rw [decide_eq_true h3, if_pos rfl, if_pos (.inr (.inr h3))]
        · have hn : ¬ (id = 0 ∨ at_ < 0 ∨ at_ > 1099511627776) := by omega
          rw [decide_eq_false h3, if_neg (by simp), if_neg hn]
          cases hf : fnd id l
          · simp only [Bool.false_eq_true, if_false]
            rw [if_neg (by omega)]
            by_cases h4 : l.length ≥ 8
            · rw [if_pos (by omega), if_pos h4]
            · rw [if_neg (by omega), if_neg h4]
              exact rplug_l0 s id at_ 0 l hlen ha (cnt id l) k 0 (by omega) (by have := cnt_le id l; omega)
          · simp only [if_true]
            rw [if_pos (by omega)]
theorem runplug_f (k : Nat) (hk : 14 ≤ k) (s : Int) (l : List T) (id : Int) : soundserviceref33_Unplug.f k s l id = some (upl s l id) := by
  unfold soundserviceref33_Unplug.f upl
  rw [rvalid_f k (by omega)]
  simp only [Option.bind_some]
  cases hv : vd s l
  · simp
  · obtain ⟨hlen, ha⟩ := vd_asc hv
    rw [if_pos rfl, if_pos rfl, rplace_f k (by omega) s id 0 l hlen ha, found_fnd id 0 l ha, place_cnt id 0 l ha]
    simp only [Option.bind_some]
    cases hf : fnd id l
    · simp
    · have hc : cnt id l < l.length := by
        rw [fnd_iff, Bool.and_eq_true, decide_eq_true_eq] at hf
        exact hf.1
      have e1 : wrap64 ((cnt id l : Int) + 1) = ((cnt id l + 1 : Nat) : Int) := by rw [w64 (by omega) (by omega)]; omega
      simp only [if_true]
      rw [if_neg (by omega), if_pos (by omega), if_pos (by omega), Int.toNat_natCast, if_pos (by simp; omega), e1, if_pos (by omega), if_pos (by omega), Int.toNat_natCast, if_pos (by simp; omega)]
      rw [List.nil_append, List.eraseIdx_eq_take_drop_succ]
theorem rready_l0 (at_ s : Int) (l : List T) (hl : l.length ≤ 8) (d : Nat) : ∀ (k i : Nat) (o : List Int), i + d = l.length → d < k → o.length ≤ i →
    soundserviceref33_Ready.l0 k at_ o (i : Int) s l = some (o ++ ((l.drop i).filter (fun x => decide (x.f1 ≤ wrap64 (at_ - s)))).map (·.f0)) := by
  induction d with
  | zero =>
    intro k i o h hk ho
    obtain ⟨k, rfl⟩ : ∃ m, k = m + 1 := ⟨k - 1, by omega⟩
    rw [soundserviceref33_Ready.l0, if_neg (by omega), List.drop_of_length_le (by omega)]; simp
  | succ d ih =>
    intro k i o h hk ho
    obtain ⟨k, rfl⟩ : ∃ m, k = m + 1 := ⟨k - 1, by omega⟩
    have hi : i < l.length := by omega
    rw [soundserviceref33_Ready.l0, if_pos (by omega), if_pos (by omega), rd_at l i hi, w64 (n := (i : Int) + 1) (by omega) (by omega), List.drop_eq_getElem_cons hi]
    by_cases h1 : l[i].f1 ≤ wrap64 (at_ - s)
    · have h2 := ih k (i + 1) (o ++ [l[i].f0]) (by omega) (by omega) (by rw [List.length_append, List.length_singleton]; omega)
      rw [Int.natCast_succ] at h2
      rw [if_pos h1, if_pos (by omega), h2, List.filter_cons, if_pos (by simpa using h1)]
      simp
    · have h2 := ih k (i + 1) o (by omega) (by omega) (by omega)
      rw [Int.natCast_succ] at h2
      rw [if_neg h1, h2, List.filter_cons, if_neg (by simpa using h1)]
theorem rready_f (k : Nat) (hk : 14 ≤ k) (s : Int) (l : List T) (at_ : Int) : soundserviceref33_Ready.f k s l at_ = some (rdy s l at_) := by
  unfold soundserviceref33_Ready.f rdy
  rw [rvalid_f k (by omega)]
  obtain ⟨k, rfl⟩ : ∃ m, k = m + 1 := ⟨k - 1, by omega⟩
  simp only [Option.bind_some, soundserviceref33_Ready.j0]
  cases hv : vd s l
  · simp
  · have hlen := (vd_asc hv).1
    rw [if_pos rfl]
    by_cases h1 : at_ < 0
    · rw [if_pos h1, if_pos trivial, if_neg (by omega)]
    · rw [if_neg h1]
      by_cases h2 : at_ > 1099511627776
      · rw [decide_eq_true h2, if_pos rfl, if_neg (by omega)]
      · rw [decide_eq_false h2, if_neg (by simp), if_pos ⟨rfl, by omega, by omega⟩]
        have := rready_l0 at_ s l hlen l.length k 0 [] (by omega) (by omega) (by simp)
        simpa using this
theorem rsame_l0 (s s' : Int) (l : List T) (hl : l.length ≤ 4611686018427387904) (d : Nat) : ∀ (k i : Nat), i + d = l.length → d < k → soundserviceref33_Same.l0 k (i : Int) s l s' l = some true := by
  induction d with
  | zero =>
    intro k i h hk
    obtain ⟨k, rfl⟩ : ∃ m, k = m + 1 := ⟨k - 1, by omega⟩
    rw [soundserviceref33_Same.l0, if_neg (by omega)]
  | succ d ih =>
    intro k i h hk
    obtain ⟨k, rfl⟩ : ∃ m, k = m + 1 := ⟨k - 1, by omega⟩
    rw [soundserviceref33_Same.l0, if_pos (by omega), if_pos (by omega), if_pos (by omega), w64 (n := (i : Int) + 1) (by omega) (by omega)]
    have h2 := ih k (i + 1) (by omega) (by omega)
    rw [Int.natCast_succ] at h2
    rw [h2]
    simp
theorem rsame_f (s : Int) (l : List T) (hl : l.length ≤ 4611686018427387904) : ∃ k, soundserviceref33_Same.f k s l s l = some true := by
  refine ⟨l.length + 2, ?_⟩
  unfold soundserviceref33_Same.f
  rw [if_pos rfl, soundserviceref33_Same.j0]
  have := rsame_l0 s s l hl l.length (l.length + 1) 0 (by omega) (by omega)
  simpa using this
theorem lsame_l0 (l : List Int) (hl : l.length ≤ 4611686018427387904) (d : Nat) : ∀ (k i : Nat), i + d = l.length → d < k → soundservicelaw33_same.l0 k l l (l.length : Int) (i : Int) = some true := by
  induction d with
  | zero =>
    intro k i h hk
    obtain ⟨k, rfl⟩ : ∃ m, k = m + 1 := ⟨k - 1, by omega⟩
    rw [soundservicelaw33_same.l0, if_neg (by omega)]
  | succ d ih =>
    intro k i h hk
    obtain ⟨k, rfl⟩ : ∃ m, k = m + 1 := ⟨k - 1, by omega⟩
    rw [soundservicelaw33_same.l0, if_pos (by omega), if_pos (by omega), if_pos (by omega), if_pos (by omega), if_pos rfl, w64 (n := (i : Int) + 1) (by omega) (by omega)]
    have h2 := ih k (i + 1) (by omega) (by omega)
    rw [Int.natCast_succ] at h2
    exact h2
theorem lsame_f (l : List Int) (hl : l.length ≤ 4611686018427387904) : ∃ k, soundservicelaw33_same.f k l l = some true := by
  refine ⟨l.length + 2, ?_⟩
  unfold soundservicelaw33_same.f
  rw [if_pos rfl]
  exact lsame_l0 l hl l.length (l.length + 2) 0 (by omega) (by omega)
theorem next_f (l : List Int) (p : Nat) (hl : l.length ≤ 9223372036854775807) (m : Int) (h0 : 1 ≤ m) (h1 : m ≤ 4611686018427387904) : ∃ v p', soundservicemill_Deck_Next.f l (p : Int) m = some (v, ((p' : Nat) : Int)) ∧ 0 ≤ v ∧ v < m := by
  unfold soundservicemill_Deck_Next.f soundservicemill_Deck_Left.f
  simp only [Option.bind_some, decide_eq_true_eq]
  by_cases h : (p : Int) < (l.length : Int)
  · have e1 : wrap64 ((p : Int) + 1) = ((p + 1 : Nat) : Int) := by rw [w64 (by omega) (by omega)]; omega
    have e2 : wrap64 (((p + 1 : Nat) : Int) - 1) = (p : Int) := by rw [w64 (by omega) (by omega)]; omega
    rw [if_pos h, e1, e2, if_pos (by omega), if_pos h, mod_f _ m h0 h1]
    exact ⟨_, p + 1, rfl, Int.emod_nonneg _ (by omega), Int.emod_lt_of_pos _ (by omega)⟩
  · rw [if_neg h]
    exact ⟨0, p, rfl, by omega, by omega⟩
theorem range_f (l : List Int) (p : Nat) (hl : l.length ≤ 9223372036854775807) : ∃ v p', soundservicemill_Deck_Range.f l (p : Int) 1 10 = some (v, ((p' : Nat) : Int)) := by
  unfold soundservicemill_Deck_Range.f
  rw [show wrap64 ((wrap64 (10 - 1)) + 1) = 10 from by decide +kernel]
  obtain ⟨v, p', h, _⟩ := next_f l p hl 10 (by omega) (by omega)
  rw [h]
  exact ⟨_, p', rfl⟩
theorem made_l0 (l : List Int) (hl : l.length ≤ 9223372036854775807) (d : Nat) : ∀ (k : Nat) (n : Int) (p : Nat) (s : Int) (xs : List T), n ≤ d → n ≤ 4611686018427387904 → d + 20 < k → ∃ s' xs', soundservicelaw33_made.l0 k n l (p : Int) s xs = some (s', xs') := by
  induction d with
  | zero =>
    intro k n p s xs h hn hk
    obtain ⟨k, rfl⟩ : ∃ m, k = m + 1 := ⟨k - 1, by omega⟩
    rw [soundservicelaw33_made.l0, if_neg (by omega)]
    exact ⟨_, _, rfl⟩
  | succ d ih =>
    intro k n p s xs h hn hk
    obtain ⟨k, rfl⟩ : ∃ m, k = m + 1 := ⟨k - 1, by omega⟩
    rw [soundservicelaw33_made.l0]
    by_cases hp : n > 0
    · obtain ⟨v, p1, h1⟩ := range_f l p hl
      obtain ⟨v2, p2, h2, _⟩ := next_f l p1 hl 20 (by omega) (by omega)
      rw [if_pos hp, h1]
      simp only [Option.bind_some]
      rw [h2]
      simp only [Option.bind_some]
      rw [rplug_f k (by omega), w64 (n := n - 1) (by omega) (by omega)]
      simp only [Option.bind_some]
      split
      · exact ih k _ _ _ _ (by omega) (by omega) (by omega)
      · exact ih k _ _ _ _ (by omega) (by omega) (by omega)
    · rw [if_neg hp]
      exact ⟨_, _, rfl⟩
theorem made_f (l : List Int) (hl : l.length ≤ 9223372036854775807) (k : Nat) (hk : 40 ≤ k) : ∃ s xs, soundservicelaw33_made.f k l = some (s, xs) := by
  unfold soundservicelaw33_made.f soundservicemill_New.f
  simp only [Option.bind_some]
  obtain ⟨v, p1, h1, _⟩ := next_f l 0 hl 5 (by omega) (by omega)
  rw [show ((0 : Nat) : Int) = 0 from rfl] at h1
  rw [h1]
  simp only [Option.bind_some]
  obtain ⟨v2, p2, h2, _, h3⟩ := next_f l p1 hl 12 (by omega) (by omega)
  rw [h2]
  simp only [Option.bind_some]
  exact made_l0 l hl 12 k v2 p2 v [] (by omega) (by omega) (by omega)
theorem plg_len (s : Int) (l : List T) (id at_ : Int) : (plg s l id at_).2.1.length ≤ 4611686018427387904 := by
  unfold plg
  cases hv : vd s l
  · simp
  · have hlen := (vd_asc hv).1
    rw [if_pos rfl]
    split
    · simp
    · split
      · simp
      · split
        · simp
        · simp; omega
theorem upl_len (s : Int) (l : List T) (id : Int) : (upl s l id).2.1.length ≤ 4611686018427387904 := by
  unfold upl
  cases hv : vd s l
  · simp
  · have hlen := (vd_asc hv).1
    rw [if_pos rfl]
    split
    · have := List.length_eraseIdx_le (l := l) (i := place l id)
      simp only []
      omega
    · simp
theorem rdy_len (s : Int) (l : List T) (at_ : Int) : (rdy s l at_).length ≤ 4611686018427387904 := by
  unfold rdy
  cases hv : vd s l
  · simp
  · have hlen := (vd_asc hv).1
    split
    · rw [List.length_map]
      have := List.length_filter_le (fun x : T => decide (x.f1 ≤ wrap64 (at_ - s))) l
      omega
    · simp
theorem facts : ComesW.Facts vd plg upl rdy where
  sane := ⟨12, sane_f 12 (by omega)⟩
  vp := fun s l => ⟨12, valid_f 12 (by omega) s l⟩
  vr := fun s l => ⟨12, rvalid_f 12 (by omega) s l⟩
  pp := fun s l i a => ⟨12, plug_f 12 (by omega) s l i a⟩
  pr := fun s l i a => ⟨14, rplug_f 14 (by omega) s l i a⟩
  up := fun s l i => ⟨12, unplug_f 12 (by omega) s l i⟩
  ur := fun s l i => ⟨14, runplug_f 14 (by omega) s l i⟩
  dp := fun s l a => ⟨12, ready_f 12 (by omega) s l a⟩
  dr := fun s l a => ⟨14, rready_f 14 (by omega) s l a⟩
  ss := rsame_f
  st := lsame_f
  pl := plg_len
  ul := upl_len
  dl := rdy_len
  m30 := fun n => ⟨_, mod_f n 30 (by omega) (by omega)⟩
  md := fun l hl => ⟨40, made_f l hl 40 (by omega)⟩
theorem comes.calls (A0 : Option Addr) (c0 : Nat) (l : List Int) (s1 : Int) (A1 : Option Addr) (c1 : Nat) (xs : List T) (id at_ now : Int) (w : World)
    (r0 : Kd.C (Kd.int .i64) w A0 l.length l) (q0 : l.length ≤ c0) (r1 : Kd.C k68 w A1 xs.length xs) (q1 : xs.length ≤ c1) {g0 g1 g2 g3 g4 g5 : Prop} (_ : g0) (_ : g1) (_ : g2) (_ : g3) (_ : g4) (_ : g5) :
    Calls Try.prog 8 #[.slice A0 l.length c0, .agg #[.int .i64 s1, .slice A1 xs.length c1], .int .u64 id, .int .i64 at_, .int .i64 now] w fun e w' => e = .returned (.bool true) ∧ Below w.heap.size w w' :=
  ComesW.walk facts A0 c0 l s1 A1 c1 xs id at_ now w ⟨r0, q0⟩ ⟨r1, q1⟩
end Go.Proofs.Ytobcpkeapjflhaa.ComesL
