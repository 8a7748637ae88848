/- What the functions of the package plug tell, as plain functions. -/
import Derived.Test.YtobcpkeapjflhaaQx3
import Derived.Test.YtobcpkeapjflhaaQx5
import Derived.Test.YtobcpkeapjflhaaQx6
import Derived.Test.YtobcpkeapjflhaaQx14
namespace Go.Proofs.Ytobcpkeapjflhaa.PlugL
open Go.RowKit Go.Proofs.Ytobcpkeapjflhaa.Q Go.Proofs.YtobcpkeapjflhaaW.PrintWords Go.Proofs.YtobcpkeapjflhaaW.PrintLast Go.Proofs.YtobcpkeapjflhaaW.PrintMore
set_option linter.unusedVariables false
set_option linter.unusedSimpArgs false
theorem w64 {n : Int} (h0 : -9223372036854775808 ≤ n) (h1 : n ≤ 9223372036854775807) : wrap64 n = n := by unfold wrap64; omega
theorem u64 {n : Int} (h0 : 0 ≤ n) (h1 : n ≤ 18446744073709551615) : IntKind.u64.wrap n = n := by
  have : IntKind.u64.wrap n = n % 18446744073709551616 := by simp [IntKind.wrap, IntKind.bits, IntKind.signed]
  rw [this]; omega
theorem wf_i64 {n : Int} (h : (Lit.int .i64 n).wf = true) : -9223372036854775808 ≤ n ∧ n ≤ 9223372036854775807 := by
  simpa [Lit.wf, IntKind.min, IntKind.max, IntKind.bits, IntKind.signed] using h
theorem wf_u64 {n : Int} (h : (Lit.int .u64 n).wf = true) : 0 ≤ n ∧ n ≤ 18446744073709551615 := by
  simpa [Lit.wf, IntKind.min, IntKind.max, IntKind.bits, IntKind.signed] using h
theorem sane_f (k : Nat) (hk : 12 ≤ k) : soundservicelaw33_sane.f k = some true :=
  at_rounds (g := fun k => soundservicelaw33_sane.f k) (fun k => soundservicelaw33_sane.mono k) hk (by decide +kernel)
theorem mod_f (a m : Int) (h0 : 1 ≤ m) (h1 : m ≤ 4611686018427387904) : soundservicemill_Mod.f a m = some (a % m) := by
  have h3 : Int.tmod a m = a % m ∨ (Int.tmod a m = a % m - m ∧ a < 0) := by
    rcases Int.lt_or_le a 0 with hn | hn
    · by_cases hd : a % m = 0
      · left; rw [hd]; exact Int.tmod_eq_zero_of_dvd (Int.dvd_of_emod_eq_zero hd)
      · right
        refine ⟨?_, hn⟩
        rw [Int.tmod_eq_emod]
        have hnd : ¬ m ∣ a := fun hd2 => hd (Int.emod_eq_zero_of_dvd hd2)
        rw [if_neg (by omega)]
        omega
    · left; exact Int.tmod_eq_emod_of_nonneg hn
  have h4 : 0 ≤ a % m := Int.emod_nonneg _ (by omega)
  have h5 : a % m < m := Int.emod_lt_of_pos _ (by omega)
  unfold soundservicemill_Mod.f
  rw [if_neg (by omega)]
  rcases h3 with e | ⟨e, hn⟩
  · rw [e, if_neg (by omega)]
  · rw [e]
    by_cases hd : a % m - m < 0
    · rw [if_pos hd, w64 (by omega) (by omega)]; congr 1; omega
    · omega
def fd (n : Int) : Bool := decide (1 ≤ n ∧ n ≤ 4096)
theorem fades_f (n : Int) : plug_fades.f n = some (fd n) := by
  unfold plug_fades.f fd
  by_cases h : n ≥ 1
  · rw [if_pos h]; congr 1; simp; omega
  · rw [if_neg h]; congr 1; simp; omega
/-- How a move begins. -/
def bg (s f t n : Int) : Int × Int × Int × Int × Int := if fd n = true ∧ ¬ (f = 0 ∧ t = 0) then (s, f, t, (if f = 0 then 2 else 1), n) else (s, f, t, 3, 0)
theorem begin_f (k : Nat) (s f t n : Int) : plug_Begin.f (k + 1) s f t n = some (bg s f t n) := by
  unfold plug_Begin.f bg
  simp only [plug_Begin.j0, fades_f, plug_over.f, Option.bind_some]
  by_cases h1 : f = 0 <;> by_cases h2 : t = 0 <;> cases h3 : fd n <;> simp [h1, h2, h3]
/-- How a move goes on. -/
def av (s f t p l n : Int) : Int × Int × Int × Int × Int :=
  if (p = 1 ∨ p = 2) ∧ 1 ≤ l ∧ fd n = true then (if wrap64 (l - 1) > 0 then (s, f, t, p, wrap64 (l - 1)) else if p = 1 ∧ t ≠ 0 then (s, f, t, 2, n) else (s, f, t, 3, 0)) else (s, f, t, 3, 0)
theorem advance_f (k : Nat) (s f t p l n : Int) : plug_Advance.f (k + 1) s f t p l n = some (av s f t p l n) := by
  unfold plug_Advance.f av
  simp only [plug_Advance.j0, fades_f, plug_over.f, Option.bind_some]
  by_cases h1 : p = 1
  · by_cases h2 : l < 1
    · have : ¬ (1 ≤ l) := by omega
      simp [h1, h2, this]
    · have h2' : 1 ≤ l := by omega
      cases h3 : fd n <;> by_cases h4 : wrap64 (l - 1) > 0 <;> by_cases h5 : t = 0 <;> simp [h1, h2, h2', h4, h5]
  · by_cases h1' : p = 2
    · by_cases h2 : l < 1
      · have : ¬ (1 ≤ l) := by omega
        simp [h1', h2, this]
      · have h2' : 1 ≤ l := by omega
        cases h3 : fd n <;> by_cases h4 : wrap64 (l - 1) > 0 <;> simp [h1', h2, h2', h4]
    · simp [h1, h1']
abbrev T := S68
/-- Sightings whose numbers ascend, each within its bounds. -/
def asc (b : Int) : List T → Bool
  | [] => true
  | x :: l => decide (b < x.f0 ∧ 0 ≤ x.f1 ∧ x.f1 ≤ 1099511627776) && asc x.f0 l
theorem rd_at (l : List T) (i : Nat) (h : i < l.length) : rd_T68 l (i : Int) = l[i] := by
  unfold rd_T68
  simp [h]
theorem valid_l0 (l : List T) (hl : l.length ≤ 4611686018427387904) (d : Nat) : ∀ (k i : Nat) (b : Int), i + d = l.length → d < k →
    plug_Valid.l0 k b l (l.length : Int) (i : Int) = some (asc b (l.drop i)) := by
  induction d with
  | zero =>
    intro k i b h hk
    obtain ⟨k, rfl⟩ : ∃ m, k = m + 1 := ⟨k - 1, by omega⟩
    rw [plug_Valid.l0, if_neg (by omega), List.drop_of_length_le (by omega)]; rfl
  | succ d ih =>
    intro k i b h hk
    obtain ⟨k, rfl⟩ : ∃ m, k = m + 1 := ⟨k - 1, by omega⟩
    have hi : i < l.length := by omega
    rw [plug_Valid.l0, if_pos (by omega), if_pos (by omega), if_pos (by omega), rd_at l i hi, w64 (n := (i : Int) + 1) (by omega) (by omega), List.drop_eq_getElem_cons hi]
    have h2 := ih k (i + 1) l[i].f0 (by omega) (by omega)
    rw [Int.natCast_succ] at h2
    rw [h2, asc]
    by_cases h1 : l[i].f0 ≤ b
    · rw [if_pos h1, decide_eq_false (by omega)]; rfl
    · rw [if_neg h1]
      by_cases h3 : l[i].f1 < 0
      · rw [if_pos h3, decide_eq_false (by omega)]; rfl
      · rw [if_neg h3]
        by_cases h4 : l[i].f1 > 1099511627776
        · rw [if_pos h4, decide_eq_false (by omega)]; rfl
        · rw [if_neg h4, decide_eq_true (by omega)]; rfl
/-- Which plugs are valid. -/
def vd (s : Int) (l : List T) : Bool := decide (0 ≤ s ∧ s ≤ 4096 ∧ l.length ≤ 8) && asc 0 l
theorem valid_f (k : Nat) (hk : 12 ≤ k) (s : Int) (l : List T) : plug_Valid.f k s l = some (vd s l) := by
  obtain ⟨k, rfl⟩ : ∃ m, k = m + 1 := ⟨k - 1, by omega⟩
  unfold plug_Valid.f vd
  simp only [plug_Valid.j0]
  by_cases h1 : s < 0
  · rw [if_pos h1, decide_eq_false (by omega)]; rfl
  · rw [if_neg h1]
    by_cases h2 : s > 4096
    · rw [if_pos h2, decide_eq_false (by omega)]; rfl
    · rw [if_neg h2]
      by_cases h3 : (l.length : Int) > 8
      · rw [decide_eq_true h3, decide_eq_false (by omega)]; rfl
      · rw [decide_eq_false h3, decide_eq_true (by omega)]
        have := valid_l0 l (by omega) l.length k 0 0 (by omega) (by omega)
        simp only [Bool.false_eq_true, if_false, Bool.true_and]
        exact this
theorem ready_l0 (at_ s x x' : Int) (l y : List T) (hl : l.length ≤ 8) (d : Nat) : ∀ (k i : Nat) (o : List Int), i + d = l.length → d < k → o.length ≤ i →
    plug_Ready.l0 k at_ o l (l.length : Int) (i : Int) s y = some (o ++ ((l.drop i).filter (fun x => decide (x.f1 ≤ wrap64 (at_ - s)))).map (·.f0)) := by
  induction d with
  | zero =>
    intro k i o h hk ho
    obtain ⟨k, rfl⟩ : ∃ m, k = m + 1 := ⟨k - 1, by omega⟩
    rw [plug_Ready.l0, if_neg (by omega), List.drop_of_length_le (by omega)]; simp
  | succ d ih =>
    intro k i o h hk ho
    obtain ⟨k, rfl⟩ : ∃ m, k = m + 1 := ⟨k - 1, by omega⟩
    have hi : i < l.length := by omega
    rw [plug_Ready.l0, if_pos (by omega), if_pos (by omega), if_pos (by omega), rd_at l i hi, w64 (n := (i : Int) + 1) (by omega) (by omega), List.drop_eq_getElem_cons hi]
    by_cases h1 : l[i].f1 ≤ wrap64 (at_ - s)
    · have h2 := ih k (i + 1) (o ++ [l[i].f0]) (by omega) (by omega) (by rw [List.length_append, List.length_singleton]; omega)
      rw [Int.natCast_succ] at h2
      rw [if_pos h1, if_pos (by omega), h2, List.filter_cons, if_pos (by simpa using h1)]
      simp
    · have h2 := ih k (i + 1) o (by omega) (by omega) (by omega)
      rw [Int.natCast_succ] at h2
      rw [if_neg h1, h2, List.filter_cons, if_neg (by simpa using h1)]
/-- Which devices are ready. -/
def rdy (s : Int) (l : List T) (at_ : Int) : List Int := if vd s l = true ∧ 0 ≤ at_ ∧ at_ ≤ 1099511627776 then (l.filter (fun x => decide (x.f1 ≤ wrap64 (at_ - s)))).map (·.f0) else []
theorem ready_f (k : Nat) (hk : 12 ≤ k) (s : Int) (l : List T) (at_ : Int) : plug_Ready.f k s l at_ = some (rdy s l at_) := by
  unfold plug_Ready.f rdy
  rw [valid_f k hk]
  obtain ⟨k, rfl⟩ : ∃ m, k = m + 1 := ⟨k - 1, by omega⟩
  simp only [Option.bind_some, plug_Ready.j0]
  cases hv : vd s l
  · simp
  · have hlen : l.length ≤ 8 := by unfold vd at hv; simp at hv; omega
    rw [if_pos rfl]
    by_cases h1 : at_ < 0
    · rw [if_pos h1, if_pos trivial, if_neg (by omega)]
    · rw [if_neg h1]
      by_cases h2 : at_ > 1099511627776
      · rw [decide_eq_true h2, if_pos rfl, if_neg (by omega)]
      · rw [decide_eq_false h2, if_neg (by simp), if_pos ⟨rfl, by omega, by omega⟩]
        have := ready_l0 at_ s 0 0 l l hlen l.length k 0 [] (by omega) (by omega) (by simp)
        simpa using this
theorem bs_le (cf : T → Int) (l : List T) (k : Nat) : ∀ i j, i ≤ j → bsISg cf l k i j ≤ j := by
  induction k with
  | zero => intro i j h; exact h
  | succ k ih =>
    intro i j h
    rw [bsISg]
    split
    · split
      · exact ih _ _ (by omega)
      · exact Nat.le_trans (ih _ _ (by omega)) (by omega)
    · exact h
/-- Where a sighting is searched, and whether it is there. -/
def place (l : List T) (id : Int) : Nat := bsISg (fun x => cmp3 x.f0 id) l l.length 0 l.length
def found (l : List T) (id : Int) : Bool := decide (place l id < l.length) && decide (cmp3 (l.getD (place l id) z68).f0 id = 0)
theorem place_le (l : List T) (id : Int) : place l id ≤ l.length := bs_le _ l _ 0 _ (Nat.zero_le _)
theorem search_f (s : Int) (l : List T) (id : Int) : plug_search.f s l id = some ((place l id : Int), found l id) := rfl
/-- What Plug tells. -/
def plg (s : Int) (l : List T) (id at_ : Int) : Int × List T × Int :=
  if vd s l = true then (if id = 0 ∨ at_ < 0 ∨ at_ > 1099511627776 then (0, [], 2) else if found l id = true then (0, [], 8) else if l.length ≥ 8 then (0, [], 3) else (s, l.take (place l id) ++ [⟨id, at_⟩] ++ l.drop (place l id), 0)) else (0, [], 1)
theorem plug_f (k : Nat) (hk : 12 ≤ k) (s : Int) (l : List T) (id at_ : Int) : plug_Plug.f k s l id at_ = some (plg s l id at_) := by
  unfold plug_Plug.f plg
  rw [search_f, valid_f k hk]
  obtain ⟨k, rfl⟩ : ∃ m, k = m + 1 := ⟨k - 1, by omega⟩
  simp only [Option.bind_some, plug_Plug.j0]
  cases hv : vd s l
  · simp
  · have hlen : l.length ≤ 8 := by unfold vd at hv; simp at hv; omega
    have hp := place_le l id
    have hins : slices_Insert_Sg.f l (place l id : Int) [⟨id, at_⟩] = some (l.take (place l id) ++ [⟨id, at_⟩] ++ l.drop (place l id)) := by
      unfold slices_Insert_Sg.f
      rw [if_pos ⟨by omega, by omega, rfl, by omega⟩, Int.toNat_natCast]
    have hclo : slices_Clone_Sg.f l = some l := by unfold slices_Clone_Sg.f; rw [if_pos (by omega)]
    rw [if_pos rfl, if_pos rfl, hclo]
    simp only [Option.bind_some, hins]
    by_cases h1 : id = 0
    · rw [if_pos h1, if_pos trivial, if_pos (.inl h1)]
    · rw [if_neg h1]
      by_cases h2 : at_ < 0
      · rw [if_pos h2, if_pos trivial, if_pos (.inr (.inl h2))]
      · rw [if_neg h2]
        by_cases h3 : at_ > 1099511627776
        · rw [decide_eq_true h3, if_pos rfl, if_pos (.inr (.inr h3))]
        · have hn : ¬ (id = 0 ∨ at_ < 0 ∨ at_ > 1099511627776) := by omega
          rw [decide_eq_false h3, if_neg (by simp), if_neg hn]
          cases hf : found l id
          · simp only [Bool.false_eq_true, if_false]
            by_cases h4 : l.length ≥ 8
            · rw [if_pos (by omega), if_pos h4]
            · rw [if_neg (by omega), if_neg h4]
          · simp
/-- What Unplug tells. -/
def upl (s : Int) (l : List T) (id : Int) : Int × List T × Int := if vd s l = true then (if found l id = true then (s, l.eraseIdx (place l id), 0) else (0, [], 7)) else (0, [], 1)
theorem unplug_f (k : Nat) (hk : 12 ≤ k) (s : Int) (l : List T) (id : Int) : plug_Unplug.f k s l id = some (upl s l id) := by
  unfold plug_Unplug.f upl
  rw [search_f, valid_f k hk]
  simp only [Option.bind_some]
  cases hv : vd s l
  · simp
  · have hlen : l.length ≤ 8 := by unfold vd at hv; simp at hv; omega
    rw [if_pos rfl, if_pos rfl]
    cases hf : found l id
    · simp
    · have hp : place l id < l.length := by unfold found at hf; simp at hf; exact hf.1
      have hclo : slices_Clone_Sg.f l = some l := by unfold slices_Clone_Sg.f; rw [if_pos (by omega)]
      have hdel : slices_Delete_Sg.f l (place l id : Int) ((place l id : Int) + 1) = some (l.eraseIdx (place l id)) := by
        unfold slices_Delete_Sg.f
        rw [if_pos ⟨by omega, rfl, by omega⟩, Int.toNat_natCast]
      rw [if_pos rfl, if_pos rfl, hclo, w64 (n := (place l id : Int) + 1) (by omega) (by omega)]
      simp only [Option.bind_some, hdel]
end Go.Proofs.Ytobcpkeapjflhaa.PlugL
