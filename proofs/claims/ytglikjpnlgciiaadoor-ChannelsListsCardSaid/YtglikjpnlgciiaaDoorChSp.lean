/- Texts that are cut at commas, in plain lists. -/
import Derived.Lib.SplitLaws
import Derived.Lib.Join
import Derived.Lib.SlicesS
namespace Go.Proofs.YtglikjpnlgciiaaDoor.L
open Go
set_option linter.unusedVariables false
set_option linter.unusedSimpArgs false
/-- A text cut at its commas. -/
def sp : List UInt8 → List (List UInt8)
  | [] => [[]]
  | c :: l => if c = 44 then [] :: sp l else match sp l with
    | [] => [[c]]
    | x :: r => (c :: x) :: r
theorem sp_ne (l : List UInt8) : sp l ≠ [] := by
  cases l with
  | nil => simp [sp]
  | cons c l =>
    rw [sp]
    split
    · simp
    · split <;> simp
theorem index_cons (c : UInt8) (l : List UInt8) (h : c ≠ 44) : Lib.index (c :: l) [44] = if Lib.index l [44] == -1 then -1 else Lib.index l [44] + 1 := by
  rw [Lib.index, if_neg (by simpa using fun e => h e.symm)]
theorem index_hd (l : List UInt8) : Lib.index (44 :: l) [44] = 0 := by
  rw [Lib.index, if_pos (by simp)]
theorem splitK_sp (l : List UInt8) : Lib.splitK [44] 0 (Lib.count l [44]) l = sp l := by
  induction l with
  | nil => decide
  | cons c l ih =>
    by_cases h : c = 44
    · subst h
      rw [Lib.count_cons_eq, Nat.add_comm, Lib.splitK, index_hd, if_neg (by decide)]
      simp only [Int.toNat_zero, Nat.add_zero, List.take_zero, Nat.zero_add, List.length_singleton, List.drop_succ_cons, List.drop_zero]
      rw [ih, sp, if_pos rfl]
    · rw [Lib.count_cons_ne _ _ _ h, sp, if_neg h]
      generalize hk : Lib.count l [44] = k at ih
      cases k with
      | zero =>
        rw [Lib.splitK] at ih
        rw [← ih, Lib.splitK]
      | succ k =>
        rw [Lib.splitK] at ih ⊢
        rcases Lib.index_spec l [44] with ⟨hi, _⟩ | ⟨i, hi, _⟩
        · have := Lib.count_miss hi
          omega
        · rw [hi, if_neg (by simp <;> omega)] at ih
          rw [index_cons c l h, hi, if_neg (by simp <;> omega), if_neg (by simp <;> omega), ← ih]
          rw [show ((i : Int) + 1).toNat = i + 1 from by omega]
          simp [Nat.add_right_comm]
end Go.Proofs.YtglikjpnlgciiaaDoor.L
