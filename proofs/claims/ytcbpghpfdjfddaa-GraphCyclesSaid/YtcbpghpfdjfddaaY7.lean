import Derived.Test.YtcbpghpfdjfddaaY6
import Derived.Test.YtcbpghpfdjfddaaY5
import Derived.Test.YtcbpghpfdjfddaaY1
import Derived.Deep.Slices
import Derived.Deep.Fields
import Derived.ChangeSame
import Derived.ChangeArms
import Derived.KernelRfl
-- Declarations of the printer's words that this claim uses (slim.py, a program of this session).
namespace Go.Proofs.YtcbpghpfdjfddaaE
open Go Go.RowKit Go.Proofs.YtcbpghpfdjfddaaG
set_option linter.unusedVariables false
set_option linter.unusedSimpArgs false
def cutB {α : Type} (p : α → Bool) : List α → Nat
  | [] => 0
  | x :: r => if p x = true then 1 + cutB p r else 0
theorem cut_cons {α : Type} (p : α → Bool) (x : α) (r : List α) : cutB p (x :: r) = if p x = true then 1 + cutB p r else 0 := rfl
theorem cut_nil {α : Type} (p : α → Bool) : cutB p [] = 0 := rfl
theorem cut_le {α : Type} (p : α → Bool) : ∀ xs : List α, cutB p xs ≤ xs.length
  | [] => Nat.le_refl _
  | x :: r => by
    unfold cutB
    have := cut_le p r
    split
    · simp; omega
    · omega
def insB {α : Type} (p : α → Bool) (xs : List α) (y : α) : List α := xs.take (cutB p xs) ++ y :: xs.drop (cutB p xs)
theorem ins_len {α : Type} (p : α → Bool) (xs : List α) (y : α) : (insB p xs y).length = xs.length + 1 := by
  have := cut_le p xs
  unfold insB
  simp
  omega
theorem ins_row {α : Type} (enc : α → List D) (p : α → Bool) (xs : List α) (y : α) : (insB p xs y).map enc = (xs.map enc).take (cutB p xs) ++ [enc y] ++ (xs.map enc).drop (cutB p xs) := by
  unfold insB
  simp [List.map_take, List.map_drop]
theorem ins_mem {α : Type} {p : α → Bool} {xs : List α} {y z : α} (h : z ∈ insB p xs y) : z ∈ xs ∨ z = y := by
  unfold insB at h
  simp only [List.mem_append, List.mem_cons] at h
  rcases h with h | h | h
  · exact .inl (List.mem_of_mem_take h)
  · exact .inr h
  · exact .inl (List.mem_of_mem_drop h)
theorem wfg_ins {ns : List Nd} {ls : List Lk} (hw : WfG ns ls) (p : Lk → Bool) {x : Lk} (h0 : wf x.f0) (h2 : wf x.f2) (hl : ls.length < 1000000) : WfG ns (insB p ls x) := by
  refine ⟨hw.1, fun l hl' => ?_, hw.2.2.1, by rw [ins_len]; omega⟩
  rcases ins_mem hl' with h | rfl
  · exact hw.2.1 l h
  · exact ⟨h0, h2⟩
theorem wfg_insN {ns : List Nd} {ls : List Lk} (hw : WfG ns ls) (p : Nd → Bool) {x : Nd} (h0 : wf x.f0) (hl : ns.length < 1000000) : WfG (insB p ns x) ls := by
  refine ⟨fun l hl' => ?_, hw.2.1, by rw [ins_len]; omega, hw.2.2.2⟩
  rcases ins_mem hl' with h | rfl
  · exact hw.1 l h
  · exact h0
def addF (ns : List Nd) (ls : List Lk) (n : Nd) : List Nd × List Lk × Int :=
  if validF ns ls = false then ([], [], 1) else if fineB n = false then ([], [], 1) else if rh ns n.f0 = true then ([], [], 8) else if 64 ≤ ns.length then ([], [], 3) else (insB (fun m => decide (m.f0 < n.f0)) ns n, ls, 0)
def connR (ns : List Nd) (ls : List Lk) (x : Lk) : List Nd × List Lk × Int :=
  if validF ns ls = false then ([], [], 1) else if portsB ns x = false then ([], [], 7) else if (ls.any fun k => Go.Proofs.YtcbpghpfdjfddaaG.eqL k x) = true then ([], [], 8) else if 256 ≤ ls.length then ([], [], 3) else if (ls.any fun k => crB ns k x) = true then ([], [], 10)
  else if (rordF ns (insB (fun y => decide (cmpL y x < 0)) ls x)).length < ns.length then ([], [], 12) else (ns, insB (fun y => decide (cmpL y x < 0)) ls x, 0)
set_option maxHeartbeats 4000000 in
theorem t_add (ns : List Nd) (ls : List Lk) (n : Nd) (hw : WfG ns ls) : Tri Try.prog 30 [gV ns ls, agN n] [] (.tp [gV (addF ns ls n).1 (addF ns ls n).2.1, .sc (.int .i64 (addF ns ls n).2.2)]) [] := by
  refine tri_of (n := 69) Γ_ok Try.func30 rfl rfl rfl (by simp only [go_sem, Nat.reduceLeDiff]) rfl (by simp only [go_sem, Nat.reduceLeDiff]) ?_
  refine awp_seq_k fun K1 hK1 => ?_
  refine reg Γ_ok [2, 3, 4] [] _ rfl fun K hK => ?_
  simp only [go_sem, Int.reduceToNat, ↓reduceIte, Nat.reduceEqDiff, Nat.reduceLT, Nat.reduceAdd, Nat.reduceMul, Nat.reduceLeDiff, reduceCtorEq]
  refine hK _ ?_
  refine hK1 _ ?_
  refine awp_seq_k fun K2 hK2 => ?_
  refine awp_seq_k fun K3 hK3 => ?_
  cases hv : validF ns ls
  · have hwn := hw.2.2.1
    have hwl := hw.2.2.2
    refine reg Γ_ok [2, 3, 4, 17] [(1, .call [gV ns ls] [] [] (.sc (.bool (validF ns ls))) []), (2, .b true)] [some 10, some 11, some 12, some 13, some 14, some 15, some 16, some 17] rfl fun K hK => ?_
    simp only [go_sem, Int.reduceToNat, ↓reduceIte, Nat.reduceEqDiff, Nat.reduceLT, Nat.reduceAdd, Nat.reduceMul, Nat.reduceLeDiff, reduceCtorEq]
    refine ⟨cs0 (t_rvalid ns ls hw) rfl rfl, by rw [hv]; rfl, hK _ ?_⟩
    refine hK3 _ ?_
    refine awp_true rfl ?_
    refine awp_seq_k fun K4 hK4 => ?_
    refine reg Γ_ok [4, 5] [] _ rfl fun K hK => ?_
    simp only [go_sem, Int.reduceToNat, ↓reduceIte, Nat.reduceEqDiff, Nat.reduceLT, Nat.reduceAdd, Nat.reduceMul, Nat.reduceLeDiff, reduceCtorEq]
    refine hK _ ?_
    refine hK4 _ ?_
    refine view [(4, .pt 2 0), (5, .sc (.int .i64 1))] [(2, .bx [.ls 4 [], .ls 4 []])] ?_ ?_ ?_
    · simp only [go_sem, ↓reduceIte, Nat.reduceEqDiff, and_self]; try trivial
    · simp only [go_sem, ↓reduceIte, Nat.reduceEqDiff, and_self]; try trivial
    refine awp_ret ?_
    have hr : addF ns ls n = ([], [], 1) := by unfold addF; rw [if_pos hv]
    rw [hr]
    exact fin0 (.inr rfl) rfl rfl rfl
  · have hwn := hw.2.2.1
    have hwl := hw.2.2.2
    refine reg Γ_ok [2, 3, 4, 17] [(1, .call [gV ns ls] [] [] (.sc (.bool (validF ns ls))) []), (2, .b false), (5, .call [agN n] [] [] (.sc (.bool (fineB n))) [])] [some 10, some 11, some 12, some 13, some 14, some 15, some 16, some 17] rfl fun K hK => ?_
    simp only [go_sem, Int.reduceToNat, ↓reduceIte, Nat.reduceEqDiff, Nat.reduceLT, Nat.reduceAdd, Nat.reduceMul, Nat.reduceLeDiff, reduceCtorEq]
    refine ⟨cs0 (t_rvalid ns ls hw) rfl rfl, by rw [hv]; rfl, cs0 (t_fits n) rfl rfl, hK _ ?_⟩
    refine hK3 _ ?_
    refine awp_cond _ rfl (fun e => ?_) (fun e => ?_)
    · have hf : fineB n = false := by have h : (!fineB n) = true := e; simpa using h
      refine awp_seq_k fun K5 hK5 => ?_
      refine reg Γ_ok [4, 5] [] _ rfl fun K hK => ?_
      simp only [go_sem, Int.reduceToNat, ↓reduceIte, Nat.reduceEqDiff, Nat.reduceLT, Nat.reduceAdd, Nat.reduceMul, Nat.reduceLeDiff, reduceCtorEq]
      refine hK _ ?_
      refine hK5 _ ?_
      refine view [(4, .pt 2 0), (5, .sc (.int .i64 1))] [(2, .bx [.ls 4 [], .ls 4 []])] ?_ ?_ ?_
      · simp only [go_sem, ↓reduceIte, Nat.reduceEqDiff, and_self]; try trivial
      · simp only [go_sem, ↓reduceIte, Nat.reduceEqDiff, and_self]; try trivial
      refine awp_ret ?_
      have hr : addF ns ls n = ([], [], 1) := by unfold addF; rw [if_neg (by rw [hv]; simp), if_pos hf]
      rw [hr]
      exact fin0 (.inr rfl) rfl rfl rfl
    · have hf : fineB n = true := by have h : (!fineB n) = false := e; simpa using h
      refine awp_skip ?_
      refine hK2 _ ?_
      refine awp_seq_k fun K6 hK6 => ?_
      refine awp_seq_k fun K7 hK7 => ?_
      refine reg Γ_ok [2, 3, 4, 7] [(3, .call [gV ns ls, .sc (.int .i64 n.f0)] [] [] (.tp [agN (rn ns n.f0), .sc (.bool (rh ns n.f0))]) [])] _ rfl fun K hK => ?_
      simp only [go_sem, Int.reduceToNat, ↓reduceIte, Nat.reduceEqDiff, Nat.reduceLT, Nat.reduceAdd, Nat.reduceMul, Nat.reduceLeDiff, reduceCtorEq]
      refine ⟨cs0 (t_rnode ns ls n.f0 hw) rfl rfl, hK _ ?_⟩
      refine hK7 _ ?_
      refine awp_seq_k fun K8 hK8 => ?_
      refine reg Γ_ok [2, 3, 4, 26] [] _ rfl fun K hK => ?_
      simp only [go_sem, Int.reduceToNat, ↓reduceIte, Nat.reduceEqDiff, Nat.reduceLT, Nat.reduceAdd, Nat.reduceMul, Nat.reduceLeDiff, reduceCtorEq]
      refine hK _ ?_
      refine hK8 _ ?_
      refine awp_cond _ rfl (fun e => ?_) (fun e => ?_)
      · refine awp_seq_k fun K9 hK9 => ?_
        refine reg Γ_ok [4, 5] [] _ rfl fun K hK => ?_
        simp only [go_sem, Int.reduceToNat, ↓reduceIte, Nat.reduceEqDiff, Nat.reduceLT, Nat.reduceAdd, Nat.reduceMul, Nat.reduceLeDiff, reduceCtorEq]
        refine hK _ ?_
        refine hK9 _ ?_
        refine view [(4, .pt 2 0), (5, .sc (.int .i64 8))] [(2, .bx [.ls 4 [], .ls 4 []])] ?_ ?_ ?_
        · simp only [go_sem, ↓reduceIte, Nat.reduceEqDiff, and_self]; try trivial
        · simp only [go_sem, ↓reduceIte, Nat.reduceEqDiff, and_self]; try trivial
        refine awp_ret ?_
        have hr : addF ns ls n = ([], [], 8) := by unfold addF; rw [if_neg (by rw [hv]; simp), if_neg (by rw [hf]; simp), if_pos e]
        rw [hr]
        exact fin0 (.inr rfl) rfl rfl rfl
      · have h4 := e
        refine awp_skip ?_
        refine hK6 _ ?_
        refine awp_seq_k fun K10 hK10 => ?_
        refine awp_seq_k fun K11 hK11 => ?_
        refine reg Γ_ok [2, 3, 4, 31] [] _ rfl fun K hK => ?_
        simp only [go_sem, Int.reduceToNat, ↓reduceIte, Nat.reduceEqDiff, Nat.reduceLT, Nat.reduceAdd, Nat.reduceMul, Nat.reduceLeDiff, reduceCtorEq]
        refine hK _ ?_
        refine hK11 _ ?_
        refine awp_dec rfl (fun e => ?_) (fun e => ?_)
        · refine awp_seq_k fun K12 hK12 => ?_
          refine reg Γ_ok [4, 5] [] _ rfl fun K hK => ?_
          simp only [go_sem, Int.reduceToNat, ↓reduceIte, Nat.reduceEqDiff, Nat.reduceLT, Nat.reduceAdd, Nat.reduceMul, Nat.reduceLeDiff, reduceCtorEq]
          refine hK _ ?_
          refine hK12 _ ?_
          refine view [(4, .pt 2 0), (5, .sc (.int .i64 3))] [(2, .bx [.ls 4 [], .ls 4 []])] ?_ ?_ ?_
          · simp only [go_sem, ↓reduceIte, Nat.reduceEqDiff, and_self]; try trivial
          · simp only [go_sem, ↓reduceIte, Nat.reduceEqDiff, and_self]; try trivial
          refine awp_ret ?_
          have hr : addF ns ls n = ([], [], 3) := by unfold addF; rw [if_neg (by rw [hv]; simp), if_neg (by rw [hf]; simp), if_neg (by rw [h4]; simp), if_pos (by omega)]
          rw [hr]
          exact fin0 (.inr rfl) rfl rfl rfl
        · have h6 := e
          refine awp_skip ?_
          refine hK10 _ ?_
          refine awp_seq_k fun K13 hK13 => ?_
          refine regc Γ_ok [0, 1, 2] [.bx [.ls 4 (ns.map encN), .ls 4 (ls.map encL)], .bx [.sc (.int .i64 n.f0), .sc (.int .i64 n.f1), .sc (.int .i64 n.f2), .sc (.int .i64 n.f3)], .bx [.nl, .nl]] [(2, .pt 0 0), (3, .pt 1 0), (4, .pt 2 0), (8, .sc (.int .i64 (0 : Nat)))] [] (by kernel_rfl) _ rfl fun K hK => ?_
          simp only [go_sem, Int.reduceToNat, ↓reduceIte, Nat.reduceEqDiff, Nat.reduceLT, Nat.reduceAdd, Nat.reduceMul, Nat.reduceLeDiff, reduceCtorEq]
          refine ⟨(by repeat' (first | rfl | constructor)), hK _ ?_⟩
          refine hK13 _ ?_
          refine awp_seq_k fun K14 hK14 => ?_
          refine awp_block ?_
          refine awp_loop (fun m σ => ∃ i : Nat, i ≤ ns.length ∧ m = ns.length - i ∧ i + cutB (fun m => decide (m.f0 < n.f0)) (ns.drop i) = cutB (fun m => decide (m.f0 < n.f0)) ns ∧ σ = ⟨[(2, .pt 0 0), (3, .pt 1 0), (4, .pt 2 0), (8, .sc (.int .i64 (i : Nat)))], [(0, .bx [.ls 4 (ns.map encN), .ls 4 (ls.map encL)]), (1, .bx [.sc (.int .i64 n.f0), .sc (.int .i64 n.f1), .sc (.int .i64 n.f2), .sc (.int .i64 n.f3)]), (2, .bx [.nl, .nl])], 3⟩) ns.length ⟨0, by omega, by omega, by rw [List.drop_zero]; omega, rfl⟩ ?_
          rintro m σ ⟨i, hi, rfl, hz, rfl⟩
          refine awp_seq_k fun K15 hK15 => ?_
          refine awp_seq_k fun K16 hK16 => ?_
          rcases Nat.lt_or_ge i ns.length with hlt | hge
          · obtain ⟨x, hx⟩ : ∃ x, ns[i]? = some x := ⟨_, List.getElem?_eq_getElem hlt⟩
            rw [drop_at hx, cut_cons] at hz
            refine drw mixed Γ_ok [2, 3, 4, 8, 48] [(4, .b true), (9, .row (encN x))] (by kernel_rfl) [some 33, some 34, some 35, some 36, some 37, some 38, some 39, some 40, some 41, some 42, some 43, some 44, some 45, some 46, some 47, some 48] rfl fun K S hS hK => ?_
            simp only [go_sem, Int.reduceToNat, ↓reduceIte, Nat.reduceEqDiff, Nat.reduceLT, Nat.reduceAdd, Nat.reduceMul, Nat.reduceLeDiff, reduceCtorEq]
            refine ⟨by simp; omega, ⟨by omega, at_row hx⟩, hS _ (by kernel_rfl), hK _ ?_⟩
            refine hK16 _ ?_
            refine awp_dec rfl (fun e => ?_) (fun e => ?_)
            · rw [if_pos (decide_eq_true e)] at hz
              refine awp_skip ?_
              refine hK15 _ ?_
              refine awp_block ?_
              refine reg Γ_ok [2, 3, 4, 8] [(1, .i ((i + 1 : Nat) : Int))] _ rfl fun K hK => ?_
              simp only [go_sem, Int.reduceToNat, ↓reduceIte, Nat.reduceEqDiff, Nat.reduceLT, Nat.reduceAdd, Nat.reduceMul, Nat.reduceLeDiff, reduceCtorEq]
              refine ⟨wrap_succ (le_mx hlt hw.2.2.1), hK _ ?_⟩
              exact ⟨_, by omega, i + 1, by omega, rfl, by omega, rfl⟩
            · rw [if_neg (by rw [decide_eq_false e]; simp)] at hz
              have hz : i = cutB (fun m => decide (m.f0 < n.f0)) ns := by omega
              refine awp_exit ?_
              refine ex_th ?_
              refine ex_th ?_
              refine ex_in ?_
              refine hK14 _ ?_
              refine awp_seq_k fun K17 hK17 => ?_
              refine drwc mixed Γ_ok [0, 1, 2, 6] [.bx [.ls 4 (ns.map encN), .ls 4 (ls.map encL)], .bx [.sc (.int .i64 n.f0), .sc (.int .i64 n.f1), .sc (.int .i64 n.f2), .sc (.int .i64 n.f3)], .bx [.nl, .nl], .row 43 4 ((insB (fun m => decide (m.f0 < n.f0)) ns n).map encN)] [(2, .pt 0 0), (4, .pt 2 0), (9, .ow 3)] [] (by kernel_rfl) (by kernel_rfl) _ rfl fun K S hS hK => ?_
              simp only [go_sem, Int.reduceToNat, ↓reduceIte, Nat.reduceEqDiff, Nat.reduceLT, Nat.reduceAdd, Nat.reduceMul, Nat.reduceLeDiff, reduceCtorEq]
              refine ⟨⟨by omega, by omega, by omega⟩, (by refine ⟨rfl, ?_, ?_⟩ <;> (try simp [maxLen]) <;> omega), (by refine ⟨rfl, ?_, ?_⟩ <;> (try simp [maxLen]) <;> omega), ⟨by omega, by omega, by omega⟩, (by refine ⟨rfl, ?_, ?_⟩ <;> (try simp [maxLen]) <;> omega), hS _ (by kernel_rfl), ⟨by rw [ins_row, ← hz]; rfl, (by repeat' (first | rfl | constructor))⟩, hK _ ?_⟩
              refine hK17 _ ?_
              refine awp_seq_k fun K18 hK18 => ?_
              refine reg Γ_ok [4, 5] [] _ rfl fun K hK => ?_
              simp only [go_sem, Int.reduceToNat, ↓reduceIte, Nat.reduceEqDiff, Nat.reduceLT, Nat.reduceAdd, Nat.reduceMul, Nat.reduceLeDiff, reduceCtorEq]
              refine ⟨(by refine ⟨rfl, ?_, ?_⟩ <;> (try simp [maxLen]) <;> omega), hK _ ?_⟩
              refine hK18 _ ?_
              refine frz 3 43 4 ((insB (fun m => decide (m.f0 < n.f0)) ns n).map encN) rfl ?_
              refine frz 4 45 4 (ls.map encL) rfl ?_
              refine awp_ret ?_
              have hr : addF ns ls n = (insB (fun m => decide (m.f0 < n.f0)) ns n, ls, 0) := by unfold addF; rw [if_neg (by rw [hv]; simp), if_neg (by rw [hf]; simp), if_neg (by rw [h4]; simp), if_neg (by omega)]
              rw [hr]
              exact fin0 (.inr rfl) rfl rfl rfl
          · rw [List.drop_eq_nil_of_le hge, cut_nil] at hz
            refine drw mixed Γ_ok [2, 3, 4, 8, 48] [(4, .b false)] (by kernel_rfl) [some 33, some 34, some 35, some 36, some 37, some 38, some 39, some 40, some 41, some 42, some 43, some 44, some 45, some 46, some 47, some 48] rfl fun K S hS hK => ?_
            simp only [go_sem, Int.reduceToNat, ↓reduceIte, Nat.reduceEqDiff, Nat.reduceLT, Nat.reduceAdd, Nat.reduceMul, Nat.reduceLeDiff, reduceCtorEq]
            refine ⟨by simp; omega, hS _ (by kernel_rfl), hK _ ?_⟩
            refine hK16 _ ?_
            refine awp_false rfl ?_
            refine awp_exit ?_
            refine ex_th ?_
            refine ex_th ?_
            refine ex_in ?_
            refine hK14 _ ?_
            refine awp_seq_k fun K19 hK19 => ?_
            refine drwc mixed Γ_ok [0, 1, 2, 6] [.bx [.ls 4 (ns.map encN), .ls 4 (ls.map encL)], .bx [.sc (.int .i64 n.f0), .sc (.int .i64 n.f1), .sc (.int .i64 n.f2), .sc (.int .i64 n.f3)], .bx [.nl, .nl], .row 43 4 ((insB (fun m => decide (m.f0 < n.f0)) ns n).map encN)] [(2, .pt 0 0), (4, .pt 2 0), (9, .ow 3)] [] (by kernel_rfl) (by kernel_rfl) _ rfl fun K S hS hK => ?_
            simp only [go_sem, Int.reduceToNat, ↓reduceIte, Nat.reduceEqDiff, Nat.reduceLT, Nat.reduceAdd, Nat.reduceMul, Nat.reduceLeDiff, reduceCtorEq]
            refine ⟨⟨by omega, by omega, by omega⟩, (by refine ⟨rfl, ?_, ?_⟩ <;> (try simp [maxLen]) <;> omega), (by refine ⟨rfl, ?_, ?_⟩ <;> (try simp [maxLen]) <;> omega), ⟨by omega, by omega, by omega⟩, (by refine ⟨rfl, ?_, ?_⟩ <;> (try simp [maxLen]) <;> omega), hS _ (by kernel_rfl), ⟨by rw [ins_row, ← hz]; rfl, (by repeat' (first | rfl | constructor))⟩, hK _ ?_⟩
            refine hK19 _ ?_
            refine awp_seq_k fun K20 hK20 => ?_
            refine reg Γ_ok [4, 5] [] _ rfl fun K hK => ?_
            simp only [go_sem, Int.reduceToNat, ↓reduceIte, Nat.reduceEqDiff, Nat.reduceLT, Nat.reduceAdd, Nat.reduceMul, Nat.reduceLeDiff, reduceCtorEq]
            refine ⟨(by refine ⟨rfl, ?_, ?_⟩ <;> (try simp [maxLen]) <;> omega), hK _ ?_⟩
            refine hK20 _ ?_
            refine frz 3 43 4 ((insB (fun m => decide (m.f0 < n.f0)) ns n).map encN) rfl ?_
            refine frz 4 45 4 (ls.map encL) rfl ?_
            refine awp_ret ?_
            have hr : addF ns ls n = (insB (fun m => decide (m.f0 < n.f0)) ns n, ls, 0) := by unfold addF; rw [if_neg (by rw [hv]; simp), if_neg (by rw [hf]; simp), if_neg (by rw [h4]; simp), if_neg (by omega)]
            rw [hr]
            exact fin0 (.inr rfl) rfl rfl rfl
set_option maxHeartbeats 4000000 in
theorem t_connr (ns : List Nd) (ls : List Lk) (x : Lk) (hw : WfG ns ls) (h0 : wf x.f0) (h2 : wf x.f2) : Tri Try.prog 34 [gV ns ls, agL x] [] (.tp [gV (connR ns ls x).1 (connR ns ls x).2.1, .sc (.int .i64 (connR ns ls x).2.2)]) [] := by
  refine tri_of (n := 81) Γ_ok Try.func34 rfl rfl rfl (by simp only [go_sem, Nat.reduceLeDiff]) rfl (by simp only [go_sem, Nat.reduceLeDiff]) ?_
  refine awp_seq_k fun K1 hK1 => ?_
  refine reg Γ_ok [2, 3, 4] [] _ rfl fun K hK => ?_
  simp only [go_sem, Int.reduceToNat, ↓reduceIte, Nat.reduceEqDiff, Nat.reduceLT, Nat.reduceAdd, Nat.reduceMul, Nat.reduceLeDiff, reduceCtorEq]
  refine hK _ ?_
  refine hK1 _ ?_
  refine awp_seq_k fun K2 hK2 => ?_
  refine awp_block ?_
  refine awp_seq_k fun K3 hK3 => ?_
  have hwn := hw.2.2.1
  have hwl := hw.2.2.2
  refine reg Γ_ok [2, 3, 4, 9] [(1, .call [gV ns ls] [] [] (.sc (.bool (validF ns ls))) [])] _ rfl fun K hK => ?_
  simp only [go_sem, Int.reduceToNat, ↓reduceIte, Nat.reduceEqDiff, Nat.reduceLT, Nat.reduceAdd, Nat.reduceMul, Nat.reduceLeDiff, reduceCtorEq]
  refine ⟨cs0 (t_rvalid ns ls hw) rfl rfl, hK _ ?_⟩
  refine hK3 _ ?_
  refine awp_cond _ rfl (fun e => ?_) (fun e => ?_)
  · have hv : validF ns ls = false := by have h : (!validF ns ls) = true := e; simpa using h
    refine awp_seq_k fun K4 hK4 => ?_
    refine reg Γ_ok [4, 5] [] _ rfl fun K hK => ?_
    simp only [go_sem, Int.reduceToNat, ↓reduceIte, Nat.reduceEqDiff, Nat.reduceLT, Nat.reduceAdd, Nat.reduceMul, Nat.reduceLeDiff, reduceCtorEq]
    refine hK _ ?_
    refine hK4 _ ?_
    refine view [(4, .pt 2 0), (5, .sc (.int .i64 1))] [(2, .bx [.ls 4 [], .ls 4 []])] ?_ ?_ ?_
    · simp only [go_sem, ↓reduceIte, Nat.reduceEqDiff, and_self]; try trivial
    · simp only [go_sem, ↓reduceIte, Nat.reduceEqDiff, and_self]; try trivial
    refine awp_ret ?_
    have hr : connR ns ls x = ([], [], 1) := by unfold connR; rw [if_pos hv]
    rw [hr]
    exact fin0 (.inr rfl) rfl rfl rfl
  · have hv : validF ns ls = true := by have h : (!validF ns ls) = false := e; simpa using h
    refine awp_seq_k fun K5 hK5 => ?_
    refine reg Γ_ok [2, 3, 4, 14] [(2, .call [gV ns ls, agL x] [] [] (.sc (.bool (portsB ns x))) [])] _ rfl fun K hK => ?_
    simp only [go_sem, Int.reduceToNat, ↓reduceIte, Nat.reduceEqDiff, Nat.reduceLT, Nat.reduceAdd, Nat.reduceMul, Nat.reduceLeDiff, reduceCtorEq]
    refine ⟨cs0 (t_ports ns ls x hw) rfl rfl, hK _ ?_⟩
    refine hK5 _ ?_
    refine awp_cond _ rfl (fun e => ?_) (fun e => ?_)
    · have hp : portsB ns x = false := by have h : (!portsB ns x) = true := e; simpa using h
      refine awp_seq_k fun K6 hK6 => ?_
      refine reg Γ_ok [4, 5] [] _ rfl fun K hK => ?_
      simp only [go_sem, Int.reduceToNat, ↓reduceIte, Nat.reduceEqDiff, Nat.reduceLT, Nat.reduceAdd, Nat.reduceMul, Nat.reduceLeDiff, reduceCtorEq]
      refine hK _ ?_
      refine hK6 _ ?_
      refine view [(4, .pt 2 0), (5, .sc (.int .i64 7))] [(2, .bx [.ls 4 [], .ls 4 []])] ?_ ?_ ?_
      · simp only [go_sem, ↓reduceIte, Nat.reduceEqDiff, and_self]; try trivial
      · simp only [go_sem, ↓reduceIte, Nat.reduceEqDiff, and_self]; try trivial
      refine awp_ret ?_
      have hr : connR ns ls x = ([], [], 7) := by unfold connR; rw [if_neg (by rw [hv]; simp), if_pos hp]
      rw [hr]
      exact fin0 (.inr rfl) rfl rfl rfl
    · have hp : portsB ns x = true := by have h : (!portsB ns x) = false := e; simpa using h
      refine awp_seq_k fun K7 hK7 => ?_
      refine reg Γ_ok [2, 3, 4, 20] [(2, .call [gV ns ls, agL x] [] [] (.sc (.bool (ls.any fun k => Go.Proofs.YtcbpghpfdjfddaaG.eqL k x))) [])] _ rfl fun K hK => ?_
      simp only [go_sem, Int.reduceToNat, ↓reduceIte, Nat.reduceEqDiff, Nat.reduceLT, Nat.reduceAdd, Nat.reduceMul, Nat.reduceLeDiff, reduceCtorEq]
      refine ⟨cs0 (t_has ns ls x hw) rfl rfl, hK _ ?_⟩
      refine hK7 _ ?_
      refine awp_cond _ rfl (fun e => ?_) (fun e => ?_)
      · have h5 := e
        refine awp_seq_k fun K8 hK8 => ?_
        refine reg Γ_ok [4, 5] [] _ rfl fun K hK => ?_
        simp only [go_sem, Int.reduceToNat, ↓reduceIte, Nat.reduceEqDiff, Nat.reduceLT, Nat.reduceAdd, Nat.reduceMul, Nat.reduceLeDiff, reduceCtorEq]
        refine hK _ ?_
        refine hK8 _ ?_
        refine view [(4, .pt 2 0), (5, .sc (.int .i64 8))] [(2, .bx [.ls 4 [], .ls 4 []])] ?_ ?_ ?_
        · simp only [go_sem, ↓reduceIte, Nat.reduceEqDiff, and_self]; try trivial
        · simp only [go_sem, ↓reduceIte, Nat.reduceEqDiff, and_self]; try trivial
        refine awp_ret ?_
        have hr : connR ns ls x = ([], [], 8) := by unfold connR; rw [if_neg (by rw [hv]; simp), if_neg (by rw [hp]; simp), if_pos h5]
        rw [hr]
        exact fin0 (.inr rfl) rfl rfl rfl
      · have h5 := e
        refine awp_seq_k fun K9 hK9 => ?_
        refine reg Γ_ok [2, 3, 4, 25] [] _ rfl fun K hK => ?_
        simp only [go_sem, Int.reduceToNat, ↓reduceIte, Nat.reduceEqDiff, Nat.reduceLT, Nat.reduceAdd, Nat.reduceMul, Nat.reduceLeDiff, reduceCtorEq]
        refine hK _ ?_
        refine hK9 _ ?_
        refine awp_dec rfl (fun e => ?_) (fun e => ?_)
        · refine awp_seq_k fun K10 hK10 => ?_
          refine reg Γ_ok [4, 5] [] _ rfl fun K hK => ?_
          simp only [go_sem, Int.reduceToNat, ↓reduceIte, Nat.reduceEqDiff, Nat.reduceLT, Nat.reduceAdd, Nat.reduceMul, Nat.reduceLeDiff, reduceCtorEq]
          refine hK _ ?_
          refine hK10 _ ?_
          refine view [(4, .pt 2 0), (5, .sc (.int .i64 3))] [(2, .bx [.ls 4 [], .ls 4 []])] ?_ ?_ ?_
          · simp only [go_sem, ↓reduceIte, Nat.reduceEqDiff, and_self]; try trivial
          · simp only [go_sem, ↓reduceIte, Nat.reduceEqDiff, and_self]; try trivial
          refine awp_ret ?_
          have hr : connR ns ls x = ([], [], 3) := by unfold connR; rw [if_neg (by rw [hv]; simp), if_neg (by rw [hp]; simp), if_neg (by rw [h5]; simp), if_pos (by omega)]
          rw [hr]
          exact fin0 (.inr rfl) rfl rfl rfl
        · have h7 := e
          refine awp_seq_k fun K11 hK11 => ?_
          refine reg Γ_ok [2, 3, 4, 31] [(4, .call [gV ns ls, agL x, .ls 4 (ls.map encL)] [] [] (.sc (.bool (ls.any fun k => crB ns k x))) [])] _ rfl fun K hK => ?_
          simp only [go_sem, Int.reduceToNat, ↓reduceIte, Nat.reduceEqDiff, Nat.reduceLT, Nat.reduceAdd, Nat.reduceMul, Nat.reduceLeDiff, reduceCtorEq]
          refine ⟨cs0 (t_crowded ns ls x ls hw hw.2.2.2) rfl rfl, hK _ ?_⟩
          refine hK11 _ ?_
          refine awp_cond _ rfl (fun e => ?_) (fun e => ?_)
          · have h9 := e
            refine awp_seq_k fun K12 hK12 => ?_
            refine reg Γ_ok [4, 5] [] _ rfl fun K hK => ?_
            simp only [go_sem, Int.reduceToNat, ↓reduceIte, Nat.reduceEqDiff, Nat.reduceLT, Nat.reduceAdd, Nat.reduceMul, Nat.reduceLeDiff, reduceCtorEq]
            refine hK _ ?_
            refine hK12 _ ?_
            refine view [(4, .pt 2 0), (5, .sc (.int .i64 10))] [(2, .bx [.ls 4 [], .ls 4 []])] ?_ ?_ ?_
            · simp only [go_sem, ↓reduceIte, Nat.reduceEqDiff, and_self]; try trivial
            · simp only [go_sem, ↓reduceIte, Nat.reduceEqDiff, and_self]; try trivial
            refine awp_ret ?_
            have hr : connR ns ls x = ([], [], 10) := by unfold connR; rw [if_neg (by rw [hv]; simp), if_neg (by rw [hp]; simp), if_neg (by rw [h5]; simp), if_neg (by omega), if_pos h9]
            rw [hr]
            exact fin0 (.inr rfl) rfl rfl rfl
          · have h9 := e
            refine awp_skip ?_
            refine hK2 _ ?_
            refine awp_seq_k fun K13 hK13 => ?_
            refine regc Γ_ok [0, 1, 2] [.bx [.ls 4 (ns.map encN), .ls 4 (ls.map encL)], .bx [.sc (.int .i64 x.f0), .sc (.int .i64 x.f1), .sc (.int .i64 x.f2), .sc (.int .i64 x.f3)], .bx [.nl, .nl]] [(2, .pt 0 0), (3, .pt 1 0), (4, .pt 2 0), (6, .sc (.int .i64 (0 : Nat)))] [] (by kernel_rfl) _ rfl fun K hK => ?_
            simp only [go_sem, Int.reduceToNat, ↓reduceIte, Nat.reduceEqDiff, Nat.reduceLT, Nat.reduceAdd, Nat.reduceMul, Nat.reduceLeDiff, reduceCtorEq]
            refine ⟨(by repeat' (first | rfl | constructor)), hK _ ?_⟩
            refine hK13 _ ?_
            refine awp_seq_k fun K14 hK14 => ?_
            refine awp_block ?_
            refine awp_loop (fun m σ => ∃ i : Nat, i ≤ ls.length ∧ m = ls.length - i ∧ i + cutB (fun y => decide (cmpL y x < 0)) (ls.drop i) = cutB (fun y => decide (cmpL y x < 0)) ls ∧ σ = ⟨[(2, .pt 0 0), (3, .pt 1 0), (4, .pt 2 0), (6, .sc (.int .i64 (i : Nat)))], [(0, .bx [.ls 4 (ns.map encN), .ls 4 (ls.map encL)]), (1, .bx [.sc (.int .i64 x.f0), .sc (.int .i64 x.f1), .sc (.int .i64 x.f2), .sc (.int .i64 x.f3)]), (2, .bx [.nl, .nl])], 3⟩) ls.length ⟨0, by omega, by omega, by rw [List.drop_zero]; omega, rfl⟩ ?_
            rintro m σ ⟨i, hi, rfl, hz, rfl⟩
            refine awp_seq_k fun K15 hK15 => ?_
            refine awp_seq_k fun K16 hK16 => ?_
            rcases Nat.lt_or_ge i ls.length with hlt | hge
            · obtain ⟨y, hy⟩ : ∃ y, ls[i]? = some y := ⟨_, List.getElem?_eq_getElem hlt⟩
              rw [drop_at hy, cut_cons] at hz
              refine drw mixed Γ_ok [2, 3, 4, 6, 51] [(4, .b true), (9, .row (encL y)), (12, .call [agL y, agL x] [] [] (.sc (.bool (decide (cmpL y x < 0)))) [])] (by kernel_rfl) [some 38, some 39, some 40, some 41, some 42, some 43, some 44, some 45, some 46, some 47, some 48, some 49, some 50, some 51] rfl fun K S hS hK => ?_
              simp only [go_sem, Int.reduceToNat, ↓reduceIte, Nat.reduceEqDiff, Nat.reduceLT, Nat.reduceAdd, Nat.reduceMul, Nat.reduceLeDiff, reduceCtorEq]
              refine ⟨by simp; omega, ⟨by omega, at_row hy⟩, cs0 (t_less y x) rfl rfl, hS _ (by kernel_rfl), hK _ ?_⟩
              refine hK16 _ ?_
              refine awp_dec rfl (fun e => ?_) (fun e => ?_)
              · rw [if_pos (decide_eq_true e)] at hz
                refine awp_skip ?_
                refine hK15 _ ?_
                refine awp_block ?_
                refine reg Γ_ok [2, 3, 4, 6] [(1, .i ((i + 1 : Nat) : Int))] _ rfl fun K hK => ?_
                simp only [go_sem, Int.reduceToNat, ↓reduceIte, Nat.reduceEqDiff, Nat.reduceLT, Nat.reduceAdd, Nat.reduceMul, Nat.reduceLeDiff, reduceCtorEq]
                refine ⟨wrap_succ (le_mx hlt hw.2.2.2), hK _ ?_⟩
                exact ⟨_, by omega, i + 1, by omega, rfl, by omega, rfl⟩
              · rw [if_neg (by rw [decide_eq_false e]; simp)] at hz
                have hz : i = cutB (fun y => decide (cmpL y x < 0)) ls := by omega
                refine awp_exit ?_
                refine ex_th ?_
                refine ex_th ?_
                refine ex_in ?_
                refine hK14 _ ?_
                refine awp_seq_k fun K17 hK17 => ?_
                refine drwc mixed Γ_ok [0, 1, 2, 6] [.bx [.ls 4 (ns.map encN), .ls 4 (ls.map encL)], .bx [.sc (.int .i64 x.f0), .sc (.int .i64 x.f1), .sc (.int .i64 x.f2), .sc (.int .i64 x.f3)], .bx [.nl, .nl], .row 45 4 ((insB (fun y => decide (cmpL y x < 0)) ls x).map encL)] [(2, .pt 0 0), (4, .pt 2 0), (7, .ow 3)] [] (by kernel_rfl) (by kernel_rfl) _ rfl fun K S hS hK => ?_
                simp only [go_sem, Int.reduceToNat, ↓reduceIte, Nat.reduceEqDiff, Nat.reduceLT, Nat.reduceAdd, Nat.reduceMul, Nat.reduceLeDiff, reduceCtorEq]
                refine ⟨⟨by omega, by omega, by omega⟩, (by refine ⟨rfl, ?_, ?_⟩ <;> (try simp [maxLen]) <;> omega), (by refine ⟨rfl, ?_, ?_⟩ <;> (try simp [maxLen]) <;> omega), ⟨by omega, by omega, by omega⟩, (by refine ⟨rfl, ?_, ?_⟩ <;> (try simp [maxLen]) <;> omega), hS _ (by kernel_rfl), ⟨by rw [ins_row, ← hz]; rfl, (by repeat' (first | rfl | constructor))⟩, hK _ ?_⟩
                refine hK17 _ ?_
                refine awp_seq_k fun K18 hK18 => ?_
                refine regc Γ_ok [0, 1, 2, 3, 4, 5] [.bx [.ls 4 (ns.map encN), .ls 4 (ls.map encL)], .bx [.sc (.int .i64 x.f0), .sc (.int .i64 x.f1), .sc (.int .i64 x.f2), .sc (.int .i64 x.f3)], .bx [.nl, .nl], .row 45 4 ((insB (fun y => decide (cmpL y x < 0)) ls x).map encL), .row 43 4 (ns.map encN), .bx [.ow 4, .ow 3]] [(4, .pt 2 0), (8, .pt 5 0)] [] (by kernel_rfl) _ rfl fun K hK => ?_
                simp only [go_sem, Int.reduceToNat, ↓reduceIte, Nat.reduceEqDiff, Nat.reduceLT, Nat.reduceAdd, Nat.reduceMul, Nat.reduceLeDiff, reduceCtorEq]
                refine ⟨(by refine ⟨rfl, ?_, ?_⟩ <;> (try simp [maxLen]) <;> omega), (by repeat' (first | rfl | constructor)), hK _ ?_⟩
                refine hK18 _ ?_
                refine awp_seq_k fun K19 hK19 => ?_
                refine awp_seq_k fun K20 hK20 => ?_
                have hw2 := wfg_ins hw (fun y => decide (cmpL y x < 0)) h0 h2 (by omega)
                refine frz 3 45 4 ((insB (fun y => decide (cmpL y x < 0)) ls x).map encL) rfl ?_
                refine frz 4 43 4 (ns.map encN) rfl ?_
                refine drw mixed Γ_ok [4, 8, 78] [(1, .call [gV ns (insB (fun y => decide (cmpL y x < 0)) ls x)] [] [] (.ls 1 ((rordF ns (insB (fun y => decide (cmpL y x < 0)) ls x)).map encI)) [])] (by kernel_rfl) _ rfl fun K S hS hK => ?_
                simp only [go_sem, Int.reduceToNat, ↓reduceIte, Nat.reduceEqDiff, Nat.reduceLT, Nat.reduceAdd, Nat.reduceMul, Nat.reduceLeDiff, reduceCtorEq]
                refine ⟨cs0 (t_rorder ns (insB (fun y => decide (cmpL y x < 0)) ls x) hw2) rfl rfl, hS _ (by kernel_rfl), hK _ ?_⟩
                refine hK20 _ ?_
                refine awp_dec rfl (fun e => ?_) (fun e => ?_)
                · refine awp_seq_k fun K21 hK21 => ?_
                  refine reg Γ_ok [4, 5] [] _ rfl fun K hK => ?_
                  simp only [go_sem, Int.reduceToNat, ↓reduceIte, Nat.reduceEqDiff, Nat.reduceLT, Nat.reduceAdd, Nat.reduceMul, Nat.reduceLeDiff, reduceCtorEq]
                  refine hK _ ?_
                  refine hK21 _ ?_
                  refine view [(4, .pt 2 0), (5, .sc (.int .i64 12))] [(2, .bx [.ls 4 [], .ls 4 []])] ?_ ?_ ?_
                  · simp only [go_sem, ↓reduceIte, Nat.reduceEqDiff, and_self]; try trivial
                  · simp only [go_sem, ↓reduceIte, Nat.reduceEqDiff, and_self]; try trivial
                  refine awp_ret ?_
                  have hr : connR ns ls x = ([], [], 12) := by unfold connR; rw [if_neg (by rw [hv]; simp), if_neg (by rw [hp]; simp), if_neg (by rw [h5]; simp), if_neg (by omega), if_neg (by rw [h9]; simp), if_pos (by omega)]
                  rw [hr]
                  exact fin0 (.inr rfl) rfl rfl rfl
                · refine awp_skip ?_
                  refine hK19 _ ?_
                  refine awp_seq_k fun K22 hK22 => ?_
                  refine reg Γ_ok [4, 5] [] _ rfl fun K hK => ?_
                  simp only [go_sem, Int.reduceToNat, ↓reduceIte, Nat.reduceEqDiff, Nat.reduceLT, Nat.reduceAdd, Nat.reduceMul, Nat.reduceLeDiff, reduceCtorEq]
                  refine hK _ ?_
                  refine hK22 _ ?_
                  refine awp_ret ?_
                  have hr : connR ns ls x = (ns, insB (fun y => decide (cmpL y x < 0)) ls x, 0) := by unfold connR; rw [if_neg (by rw [hv]; simp), if_neg (by rw [hp]; simp), if_neg (by rw [h5]; simp), if_neg (by omega), if_neg (by rw [h9]; simp), if_neg (by omega)]
                  rw [hr]
                  exact fin0 (.inr rfl) rfl rfl rfl
            · rw [List.drop_eq_nil_of_le hge, cut_nil] at hz
              refine drw mixed Γ_ok [2, 3, 4, 6, 51] [(4, .b false)] (by kernel_rfl) [some 38, some 39, some 40, some 41, some 42, some 43, some 44, some 45, some 46, some 47, some 48, some 49, some 50, some 51] rfl fun K S hS hK => ?_
              simp only [go_sem, Int.reduceToNat, ↓reduceIte, Nat.reduceEqDiff, Nat.reduceLT, Nat.reduceAdd, Nat.reduceMul, Nat.reduceLeDiff, reduceCtorEq]
              refine ⟨by simp; omega, hS _ (by kernel_rfl), hK _ ?_⟩
              refine hK16 _ ?_
              refine awp_false rfl ?_
              refine awp_exit ?_
              refine ex_th ?_
              refine ex_th ?_
              refine ex_in ?_
              refine hK14 _ ?_
              refine awp_seq_k fun K23 hK23 => ?_
              refine drwc mixed Γ_ok [0, 1, 2, 6] [.bx [.ls 4 (ns.map encN), .ls 4 (ls.map encL)], .bx [.sc (.int .i64 x.f0), .sc (.int .i64 x.f1), .sc (.int .i64 x.f2), .sc (.int .i64 x.f3)], .bx [.nl, .nl], .row 45 4 ((insB (fun y => decide (cmpL y x < 0)) ls x).map encL)] [(2, .pt 0 0), (4, .pt 2 0), (7, .ow 3)] [] (by kernel_rfl) (by kernel_rfl) _ rfl fun K S hS hK => ?_
              simp only [go_sem, Int.reduceToNat, ↓reduceIte, Nat.reduceEqDiff, Nat.reduceLT, Nat.reduceAdd, Nat.reduceMul, Nat.reduceLeDiff, reduceCtorEq]
              refine ⟨⟨by omega, by omega, by omega⟩, (by refine ⟨rfl, ?_, ?_⟩ <;> (try simp [maxLen]) <;> omega), (by refine ⟨rfl, ?_, ?_⟩ <;> (try simp [maxLen]) <;> omega), ⟨by omega, by omega, by omega⟩, (by refine ⟨rfl, ?_, ?_⟩ <;> (try simp [maxLen]) <;> omega), hS _ (by kernel_rfl), ⟨by rw [ins_row, ← hz]; rfl, (by repeat' (first | rfl | constructor))⟩, hK _ ?_⟩
              refine hK23 _ ?_
              refine awp_seq_k fun K24 hK24 => ?_
              refine regc Γ_ok [0, 1, 2, 3, 4, 5] [.bx [.ls 4 (ns.map encN), .ls 4 (ls.map encL)], .bx [.sc (.int .i64 x.f0), .sc (.int .i64 x.f1), .sc (.int .i64 x.f2), .sc (.int .i64 x.f3)], .bx [.nl, .nl], .row 45 4 ((insB (fun y => decide (cmpL y x < 0)) ls x).map encL), .row 43 4 (ns.map encN), .bx [.ow 4, .ow 3]] [(4, .pt 2 0), (8, .pt 5 0)] [] (by kernel_rfl) _ rfl fun K hK => ?_
              simp only [go_sem, Int.reduceToNat, ↓reduceIte, Nat.reduceEqDiff, Nat.reduceLT, Nat.reduceAdd, Nat.reduceMul, Nat.reduceLeDiff, reduceCtorEq]
              refine ⟨(by refine ⟨rfl, ?_, ?_⟩ <;> (try simp [maxLen]) <;> omega), (by repeat' (first | rfl | constructor)), hK _ ?_⟩
              refine hK24 _ ?_
              refine awp_seq_k fun K25 hK25 => ?_
              refine awp_seq_k fun K26 hK26 => ?_
              have hw2 := wfg_ins hw (fun y => decide (cmpL y x < 0)) h0 h2 (by omega)
              refine frz 3 45 4 ((insB (fun y => decide (cmpL y x < 0)) ls x).map encL) rfl ?_
              refine frz 4 43 4 (ns.map encN) rfl ?_
              refine drw mixed Γ_ok [4, 8, 78] [(1, .call [gV ns (insB (fun y => decide (cmpL y x < 0)) ls x)] [] [] (.ls 1 ((rordF ns (insB (fun y => decide (cmpL y x < 0)) ls x)).map encI)) [])] (by kernel_rfl) _ rfl fun K S hS hK => ?_
              simp only [go_sem, Int.reduceToNat, ↓reduceIte, Nat.reduceEqDiff, Nat.reduceLT, Nat.reduceAdd, Nat.reduceMul, Nat.reduceLeDiff, reduceCtorEq]
              refine ⟨cs0 (t_rorder ns (insB (fun y => decide (cmpL y x < 0)) ls x) hw2) rfl rfl, hS _ (by kernel_rfl), hK _ ?_⟩
              refine hK26 _ ?_
              refine awp_dec rfl (fun e => ?_) (fun e => ?_)
              · refine awp_seq_k fun K27 hK27 => ?_
                refine reg Γ_ok [4, 5] [] _ rfl fun K hK => ?_
                simp only [go_sem, Int.reduceToNat, ↓reduceIte, Nat.reduceEqDiff, Nat.reduceLT, Nat.reduceAdd, Nat.reduceMul, Nat.reduceLeDiff, reduceCtorEq]
                refine hK _ ?_
                refine hK27 _ ?_
                refine view [(4, .pt 2 0), (5, .sc (.int .i64 12))] [(2, .bx [.ls 4 [], .ls 4 []])] ?_ ?_ ?_
                · simp only [go_sem, ↓reduceIte, Nat.reduceEqDiff, and_self]; try trivial
                · simp only [go_sem, ↓reduceIte, Nat.reduceEqDiff, and_self]; try trivial
                refine awp_ret ?_
                have hr : connR ns ls x = ([], [], 12) := by unfold connR; rw [if_neg (by rw [hv]; simp), if_neg (by rw [hp]; simp), if_neg (by rw [h5]; simp), if_neg (by omega), if_neg (by rw [h9]; simp), if_pos (by omega)]
                rw [hr]
                exact fin0 (.inr rfl) rfl rfl rfl
              · refine awp_skip ?_
                refine hK25 _ ?_
                refine awp_seq_k fun K28 hK28 => ?_
                refine reg Γ_ok [4, 5] [] _ rfl fun K hK => ?_
                simp only [go_sem, Int.reduceToNat, ↓reduceIte, Nat.reduceEqDiff, Nat.reduceLT, Nat.reduceAdd, Nat.reduceMul, Nat.reduceLeDiff, reduceCtorEq]
                refine hK _ ?_
                refine hK28 _ ?_
                refine awp_ret ?_
                have hr : connR ns ls x = (ns, insB (fun y => decide (cmpL y x < 0)) ls x, 0) := by unfold connR; rw [if_neg (by rw [hv]; simp), if_neg (by rw [hp]; simp), if_neg (by rw [h5]; simp), if_neg (by omega), if_neg (by rw [h9]; simp), if_neg (by omega)]
                rw [hr]
                exact fin0 (.inr rfl) rfl rfl rfl
end Go.Proofs.YtcbpghpfdjfddaaE
-- Declarations of the printer's words that this claim uses (slim.py, a program of this session).
namespace Go.Proofs.YtcbpghpfdjfddaaE
open Go Go.RowKit Go.Proofs.YtcbpghpfdjfddaaG
set_option linter.unusedVariables false
set_option linter.unusedSimpArgs false
theorem wf_of {x : Int} (h1 : -9223372036854775808 ≤ x) (h2 : x ≤ 9223372036854775807) : wf x := by
  have := wrap_i64 h1 h2
  show (Lit.int .i64 x).wf = true
  simp only [Lit.wf, Bool.and_eq_true, decide_eq_true_eq]
  exact ⟨h1, h2⟩
abbrev MS := List Nd × List Lk × List Int
def idN (l : List Int) : Int := 1 + nx l 12
def stN (s : MS) : MS :=
  if (addF s.1 s.2.1 (nodeN (rs s.2.2 12) (idN s.2.2))).2.2 = 0 then ((addF s.1 s.2.1 (nodeN (rs s.2.2 12) (idN s.2.2))).1, (addF s.1 s.2.1 (nodeN (rs s.2.2 12) (idN s.2.2))).2.1, nodeR (rs s.2.2 12)) else (s.1, s.2.1, nodeR (rs s.2.2 12))
def stL (s : MS) : MS :=
  if (connR s.1 s.2.1 (lk_ s.2.2)).2.2 = 0 then ((connR s.1 s.2.1 (lk_ s.2.2)).1, (connR s.1 s.2.1 (lk_ s.2.2)).2.1, lkR s.2.2) else (s.1, s.2.1, lkR s.2.2)
def itN : Nat → MS → MS
  | 0, s => s
  | k + 1, s => itN k (stN s)
def itL : Nat → MS → MS
  | 0, s => s
  | k + 1, s => itL k (stL s)
def mkN (l : List Int) : MS := itN (nx l 10).toNat ([], [], rs l 10)
def mkG (l : List Int) : MS := itL (nx (mkN l).2.2 12).toNat ((mkN l).1, (mkN l).2.1, rs (mkN l).2.2 12)
structure Good (ns : List Nd) (ls : List Lk) (l : List Int) : Prop where
  hn : ∀ n ∈ ns, wf n.f0
  hl : ∀ l ∈ ls, wf l.f0 ∧ wf l.f2
  hnl : ns.length ≤ 64
  hll : ls.length ≤ 256
  hu : U8 l
theorem Good.w {ns : List Nd} {ls : List Lk} {l : List Int} (h : Good ns ls l) : WfG ns ls := ⟨h.hn, h.hl, by have := h.hnl; omega, by have := h.hll; omega⟩
theorem u8_nodeR {l : List Int} (h : U8 l) : U8 (nodeR l) := by
  unfold nodeR
  split
  · exact u8_rs h _
  split
  · exact u8_rs h _
  split
  · exact u8_rs (u8_rs h _) _
  split
  · exact u8_rs h _
  · exact u8_rs (u8_rs h _) _
theorem u8_lkR {l : List Int} (h : U8 l) : U8 (lkR l) := u8_rs (u8_rs (u8_rs (u8_rs h _) _) _) _
theorem node_id (l : List Int) (id : Int) : (nodeN l id).f0 = id := by
  unfold nodeN
  split
  · rfl
  split
  · rfl
  split
  · rfl
  split <;> rfl
theorem wf_id {l : List Int} (h : U8 l) : wf (idN l) := by
  have h1 := nx_ge h 12
  have h2 := nx_lt h (n := 12) (by omega)
  exact wf_of (by unfold idN; omega) (by unfold idN; omega)
theorem wf_lk {l : List Int} (h : U8 l) : wf (lk_ l).f0 ∧ wf (lk_ l).f2 := ⟨wf_id h, wf_id (u8_rs (u8_rs h 12) 2)⟩
theorem add_ok {ns : List Nd} {ls : List Lk} {n : Nd} (h : (addF ns ls n).2.2 = 0) : validF ns ls = true ∧ fineB n = true ∧ rh ns n.f0 = false ∧ ns.length < 64 ∧ addF ns ls n = (insB (fun m => decide (m.f0 < n.f0)) ns n, ls, 0) := by
  unfold addF at h ⊢
  split at h
  · cases h
  split at h
  · cases h
  split at h
  · cases h
  split at h
  · cases h
  rename_i h1 h2 h3 h4
  rw [if_neg h1, if_neg h2, if_neg h3, if_neg h4]
  exact ⟨by simpa using h1, by simpa using h2, by simpa using h3, by omega, rfl⟩
theorem conn_ok {ns : List Nd} {ls : List Lk} {x : Lk} (h : (connR ns ls x).2.2 = 0) : validF ns ls = true ∧ portsB ns x = true ∧ (ls.any fun k => Go.Proofs.YtcbpghpfdjfddaaG.eqL k x) = false ∧ ls.length < 256 ∧ (ls.any fun k => crB ns k x) = false ∧ ¬ (rordF ns (insB (fun y => decide (cmpL y x < 0)) ls x)).length < ns.length ∧ connR ns ls x = (ns, insB (fun y => decide (cmpL y x < 0)) ls x, 0) := by
  unfold connR at h ⊢
  split at h
  · cases h
  split at h
  · cases h
  split at h
  · cases h
  split at h
  · cases h
  split at h
  · cases h
  split at h
  · cases h
  rename_i h1 h2 h3 h4 h5 h6
  rw [if_neg h1, if_neg h2, if_neg h3, if_neg h4, if_neg h5, if_neg h6]
  exact ⟨by simpa using h1, by simpa using h2, by simpa using h3, by omega, by simpa using h5, h6, rfl⟩
theorem good_stN {ns : List Nd} {ls : List Lk} {l : List Int} (h : Good ns ls l) : Good (stN (ns, ls, l)).1 (stN (ns, ls, l)).2.1 (stN (ns, ls, l)).2.2 := by
  have hu := u8_nodeR (u8_rs h.hu 12)
  unfold stN
  split
  · rename_i e
    obtain ⟨_, _, _, h4, h5⟩ := add_ok e
    have h4 : ns.length < 64 := h4
    have hw := wfg_insN h.w (fun m => decide (m.f0 < (nodeN (rs l 12) (idN l)).f0)) (x := nodeN (rs l 12) (idN l)) (by rw [node_id]; exact wf_id h.hu) (by omega)
    simp only [h5]
    exact ⟨hw.1, h.hl, by rw [ins_len]; omega, h.hll, hu⟩
  · exact ⟨h.hn, h.hl, h.hnl, h.hll, hu⟩
theorem good_stL {ns : List Nd} {ls : List Lk} {l : List Int} (h : Good ns ls l) : Good (stL (ns, ls, l)).1 (stL (ns, ls, l)).2.1 (stL (ns, ls, l)).2.2 := by
  have hu := u8_lkR h.hu
  unfold stL
  split
  · rename_i e
    obtain ⟨_, _, _, h4, _, _, h5⟩ := conn_ok e
    have h4 : ls.length < 256 := h4
    have hw := wfg_ins h.w (fun y => decide (cmpL y (lk_ l) < 0)) (wf_lk h.hu).1 (wf_lk h.hu).2 (by omega)
    simp only [h5]
    exact ⟨h.hn, hw.2.1, h.hnl, by rw [ins_len]; omega, hu⟩
  · exact ⟨h.hn, h.hl, h.hnl, h.hll, hu⟩
theorem wrap_dec {k : Nat} (h : k < 9223372036854775807) : IntKind.i64.wrap (((k + 1 : Nat) : Int) - 1) = (k : Int) := by
  rw [wrap_i64 (by omega) (by omega)]; omega
theorem nat_of {x : Int} (h : 0 ≤ x) : ∃ k : Nat, x = k := ⟨x.toNat, by omega⟩
set_option maxHeartbeats 4000000 in
theorem t_graph (l0 : List Int) (hl : U8 l0) : Tri Try.prog 36 [.pt 0 0, .sc (.int .i64 9)] [dc l0] (gV (mkG l0).1 (mkG l0).2.1) [dc (mkG l0).2.2] := by
  refine tri_of (n := 50) Γ_ok Try.func36 rfl rfl rfl (by simp only [go_sem, Nat.reduceLeDiff]) rfl (by simp only [go_sem, Nat.reduceLeDiff]) ?_
  refine awp_seq_k fun K1 hK1 => ?_
  refine reg Γ_ok [0, 1, 4] [] _ rfl fun K hK => ?_
  simp only [go_sem, Int.reduceToNat, ↓reduceIte, Nat.reduceEqDiff, Nat.reduceLT, Nat.reduceAdd, Nat.reduceMul, Nat.reduceLeDiff, reduceCtorEq]
  refine hK _ ?_
  refine hK1 _ ?_
  refine awp_seq_k fun K2 hK2 => ?_
  refine reg Γ_ok [0, 1, 4, 5] [] _ rfl fun K hK => ?_
  simp only [go_sem, Int.reduceToNat, ↓reduceIte, Nat.reduceEqDiff, Nat.reduceLT, Nat.reduceAdd, Nat.reduceMul, Nat.reduceLeDiff, reduceCtorEq]
  refine hK _ ?_
  refine hK2 _ ?_
  refine awp_seq_k fun K3 hK3 => ?_
  refine awp_seq_k fun K4 hK4 => ?_
  have hl1 := u8_rs hl 10
  obtain ⟨K0, hK0⟩ := nat_of (nx_ge hl 10)
  have hKl := nx_lt hl (n := 10) (by omega)
  refine reg Γ_ok [0, 4, 5, 6] [(2, .i 10), (3, .call [.pt 0 0, .sc (.int .i64 10)] [0] [dc (l0)] (.sc (.int .i64 (nx (l0) 10))) [dc (rs (l0) 10)])] _ rfl fun K hK => ?_
  simp only [go_sem, Int.reduceToNat, ↓reduceIte, Nat.reduceEqDiff, Nat.reduceLT, Nat.reduceAdd, Nat.reduceMul, Nat.reduceLeDiff, reduceCtorEq]
  refine ⟨by decide, cs1a (t_next (l0) 10 hl) (by omega) rfl rfl rfl, hK _ ?_⟩
  refine hK4 _ ?_
  refine awp_block ?_
  rw [hK0]
  refine view [(0, .pt 0 0), (4, .pt 1 0), (5, .pt 2 0), (6, .sc (.int .i64 (K0 : Nat)))] [(0, dc (rs l0 10)), (1, .bx [.nl, .nl]), (2, .bx [.ls 4 (([] : List Nd).map encN), .ls 4 (([] : List Lk).map encL)])] ?_ ?_ ?_
  · simp only [go_sem, ↓reduceIte, Nat.reduceEqDiff, and_self, and_true, true_and]; try trivial
  · simp only [go_sem, ↓reduceIte, Nat.reduceEqDiff, and_self, and_true, true_and]; try trivial
  refine awp_loop (fun m σ => ∃ (ns : List Nd) (ls : List Lk) (l : List Int), m < 1000 ∧ Good ns ls l ∧ itN m (ns, ls, l) = mkN l0 ∧ σ = ⟨[(0, .pt 0 0), (4, .pt 1 0), (5, .pt 2 0), (6, .sc (.int .i64 (m : Nat)))], [(0, dc (l)), (1, .bx [.nl, .nl]), (2, .bx [.ls 4 (ns.map encN), .ls 4 (ls.map encL)])], 3⟩) K0 ⟨[], [], rs l0 10, by omega, ⟨fun n h => (by cases h), fun n h => (by cases h), Nat.zero_le _, Nat.zero_le _, hl1⟩, by unfold mkN; rw [hK0]; rfl, rfl⟩ ?_
  rintro m σ ⟨ns, ls, l, hkb, hg, hz, rfl⟩
  refine awp_seq_k fun K5 hK5 => ?_
  refine awp_seq_k fun K6 hK6 => ?_
  refine reg Γ_ok [0, 4, 5, 6, 17] [] _ rfl fun K hK => ?_
  simp only [go_sem, Int.reduceToNat, ↓reduceIte, Nat.reduceEqDiff, Nat.reduceLT, Nat.reduceAdd, Nat.reduceMul, Nat.reduceLeDiff, reduceCtorEq]
  refine hK _ ?_
  refine hK6 _ ?_
  refine awp_dec rfl (fun e => ?_) (fun e => ?_)
  · obtain ⟨k, rfl⟩ : ∃ k, m = k + 1 := ⟨m - 1, by omega⟩
    refine awp_skip ?_
    refine hK5 _ ?_
    refine awp_seq_k fun K7 hK7 => ?_
    refine awp_block ?_
    refine awp_seq_k fun K8 hK8 => ?_
    have hwi := wf_id hg.hu
    have hu1 := u8_rs hg.hu 12
    refine drw mixed Γ_ok [0, 4, 5, 6, 7, 8] [(3, .call [.pt 0 0, .sc (.int .i64 12)] [0] [dc (l)] (.sc (.int .i64 (nx (l) 12))) [dc (rs (l) 12)]), (4, .i (idN l)), (5, .call [.pt 0 0, .sc (.int .i64 (idN l))] [0] [dc (rs l 12)] (agN (nodeN (rs l 12) (idN l))) [dc (nodeR (rs l 12))]), (6, .call [gV ns ls, agN (nodeN (rs l 12) (idN l))] [] [] (.tp [gV (addF ns ls (nodeN (rs l 12) (idN l))).1 (addF ns ls (nodeN (rs l 12) (idN l))).2.1, .sc (.int .i64 (addF ns ls (nodeN (rs l 12) (idN l))).2.2)]) [])] (by kernel_rfl) _ rfl fun K S hS hK => ?_
    simp only [go_sem, Int.reduceToNat, ↓reduceIte, Nat.reduceEqDiff, Nat.reduceLT, Nat.reduceAdd, Nat.reduceMul, Nat.reduceLeDiff, reduceCtorEq]
    refine ⟨cs1a (t_next (l) 12 hg.hu) (by omega) rfl rfl rfl, nx_one hg.hu (by omega) (by omega), cs1a (t_node (rs l 12) (idN l) hu1) (by omega) rfl rfl rfl, cs0 (t_add ns ls (nodeN (rs l 12) (idN l)) hg.w) rfl rfl, hS _ (by kernel_rfl), hK _ ?_⟩
    refine hK8 _ ?_
    refine awp_seq_k fun K9 hK9 => ?_
    refine reg Γ_ok [0, 4, 5, 6, 7, 31] [] _ rfl fun K hK => ?_
    simp only [go_sem, Int.reduceToNat, ↓reduceIte, Nat.reduceEqDiff, Nat.reduceLT, Nat.reduceAdd, Nat.reduceMul, Nat.reduceLeDiff, reduceCtorEq]
    refine hK _ ?_
    refine hK9 _ ?_
    refine awp_dec rfl (fun e => ?_) (fun e => ?_)
    · have hg0 : stN (ns, ls, l) = ((addF ns ls (nodeN (rs l 12) (idN l))).1, (addF ns ls (nodeN (rs l 12) (idN l))).2.1, nodeR (rs l 12)) := if_pos e
      have hg1 : (stN (ns, ls, l)).1 = (addF ns ls (nodeN (rs l 12) (idN l))).1 := congrArg (·.1) hg0
      have hg2 : (stN (ns, ls, l)).2.1 = (addF ns ls (nodeN (rs l 12) (idN l))).2.1 := congrArg (·.2.1) hg0
      have hg3 : (stN (ns, ls, l)).2.2 = nodeR (rs l 12) := congrArg (·.2.2) hg0
      refine reg Γ_ok [0, 4, 5, 6] [] _ rfl fun K hK => ?_
      simp only [go_sem, Int.reduceToNat, ↓reduceIte, Nat.reduceEqDiff, Nat.reduceLT, Nat.reduceAdd, Nat.reduceMul, Nat.reduceLeDiff, reduceCtorEq]
      refine hK _ ?_
      refine hK7 _ ?_
      refine regc Γ_ok [0, 1, 2] [dc ((stN (ns, ls, l)).2.2), .bx [.nl, .nl], .bx [.ls 4 ((stN (ns, ls, l)).1.map encN), .ls 4 ((stN (ns, ls, l)).2.1.map encL)]] [(0, .pt 0 0), (4, .pt 1 0), (5, .pt 2 0), (6, .sc (.int .i64 (k : Nat)))] [(1, .i ((k : Nat) : Int))] (by kernel_rfl) _ rfl fun K hK => ?_
      simp only [go_sem, Int.reduceToNat, ↓reduceIte, Nat.reduceEqDiff, Nat.reduceLT, Nat.reduceAdd, Nat.reduceMul, Nat.reduceLeDiff, reduceCtorEq]
      refine ⟨wrap_dec (by omega), (by rw [hg1, hg2, hg3]; repeat' (first | rfl | constructor)), hK _ ?_⟩
      exact ⟨k, by omega, (stN (ns, ls, l)).1, (stN (ns, ls, l)).2.1, (stN (ns, ls, l)).2.2, by omega, good_stN hg, hz, rfl⟩
    · have hg0 : stN (ns, ls, l) = (ns, ls, nodeR (rs l 12)) := if_neg e
      have hg1 : (stN (ns, ls, l)).1 = ns := congrArg (·.1) hg0
      have hg2 : (stN (ns, ls, l)).2.1 = ls := congrArg (·.2.1) hg0
      have hg3 : (stN (ns, ls, l)).2.2 = nodeR (rs l 12) := congrArg (·.2.2) hg0
      refine awp_skip ?_
      refine hK7 _ ?_
      refine regc Γ_ok [0, 1, 2] [dc ((stN (ns, ls, l)).2.2), .bx [.nl, .nl], .bx [.ls 4 ((stN (ns, ls, l)).1.map encN), .ls 4 ((stN (ns, ls, l)).2.1.map encL)]] [(0, .pt 0 0), (4, .pt 1 0), (5, .pt 2 0), (6, .sc (.int .i64 (k : Nat)))] [(1, .i ((k : Nat) : Int))] (by kernel_rfl) _ rfl fun K hK => ?_
      simp only [go_sem, Int.reduceToNat, ↓reduceIte, Nat.reduceEqDiff, Nat.reduceLT, Nat.reduceAdd, Nat.reduceMul, Nat.reduceLeDiff, reduceCtorEq]
      refine ⟨wrap_dec (by omega), (by rw [hg1, hg2, hg3]; repeat' (first | rfl | constructor)), hK _ ?_⟩
      exact ⟨k, by omega, (stN (ns, ls, l)).1, (stN (ns, ls, l)).2.1, (stN (ns, ls, l)).2.2, by omega, good_stN hg, hz, rfl⟩
  · obtain rfl : m = 0 := by omega
    have hz : (ns, ls, l) = mkN l0 := hz
    refine awp_exit ?_
    refine ex_th ?_
    refine ex_th ?_
    refine ex_in ?_
    refine hK3 _ ?_
    refine awp_seq_k fun K10 hK10 => ?_
    refine awp_seq_k fun K11 hK11 => ?_
    obtain ⟨K0, hK0⟩ := nat_of (nx_ge hg.hu 12)
    have hKl := nx_lt hg.hu (n := 12) (by omega)
    refine reg Γ_ok [0, 4, 5, 9] [(1, .call [.pt 0 0, .sc (.int .i64 12)] [0] [dc (l)] (.sc (.int .i64 (nx (l) 12))) [dc (rs (l) 12)])] _ rfl fun K hK => ?_
    simp only [go_sem, Int.reduceToNat, ↓reduceIte, Nat.reduceEqDiff, Nat.reduceLT, Nat.reduceAdd, Nat.reduceMul, Nat.reduceLeDiff, reduceCtorEq]
    refine ⟨cs1a (t_next (l) 12 hg.hu) (by omega) rfl rfl rfl, hK _ ?_⟩
    refine hK11 _ ?_
    refine awp_block ?_
    rw [hK0]
    refine awp_loop (fun m σ => ∃ (ns : List Nd) (ls : List Lk) (l : List Int), m < 1000 ∧ Good ns ls l ∧ itL m (ns, ls, l) = mkG l0 ∧ σ = ⟨[(0, .pt 0 0), (4, .pt 1 0), (5, .pt 2 0), (9, .sc (.int .i64 (m : Nat)))], [(0, dc (l)), (1, .bx [.nl, .nl]), (2, .bx [.ls 4 (ns.map encN), .ls 4 (ls.map encL)])], 3⟩) K0 ⟨ns, ls, rs l 12, by omega, ⟨hg.hn, hg.hl, hg.hnl, hg.hll, u8_rs hg.hu 12⟩, by unfold mkG; rw [← hz]; simp only [hK0]; rfl, rfl⟩ ?_
    rintro m σ ⟨ns, ls, l, hkb, hg, hz, rfl⟩
    refine awp_seq_k fun K12 hK12 => ?_
    refine awp_seq_k fun K13 hK13 => ?_
    refine reg Γ_ok [0, 4, 5, 9, 36] [] _ rfl fun K hK => ?_
    simp only [go_sem, Int.reduceToNat, ↓reduceIte, Nat.reduceEqDiff, Nat.reduceLT, Nat.reduceAdd, Nat.reduceMul, Nat.reduceLeDiff, reduceCtorEq]
    refine hK _ ?_
    refine hK13 _ ?_
    refine awp_dec rfl (fun e => ?_) (fun e => ?_)
    · obtain ⟨k, rfl⟩ : ∃ k, m = k + 1 := ⟨m - 1, by omega⟩
      refine awp_skip ?_
      refine hK12 _ ?_
      refine awp_seq_k fun K14 hK14 => ?_
      refine awp_block ?_
      refine awp_seq_k fun K15 hK15 => ?_
      refine drw mixed Γ_ok [0, 4, 5, 9, 10, 11] [(2, .call [.pt 0 0] [0] [dc l] (agL (lk_ l)) [dc (lkR l)]), (3, .call [gV ns ls, agL (lk_ l)] [] [] (.tp [gV (connR ns ls (lk_ l)).1 (connR ns ls (lk_ l)).2.1, .sc (.int .i64 (connR ns ls (lk_ l)).2.2)]) [])] (by kernel_rfl) _ rfl fun K S hS hK => ?_
      simp only [go_sem, Int.reduceToNat, ↓reduceIte, Nat.reduceEqDiff, Nat.reduceLT, Nat.reduceAdd, Nat.reduceMul, Nat.reduceLeDiff, reduceCtorEq]
      refine ⟨cs1a (t_link l hg.hu) (by omega) rfl rfl rfl, cs0 (t_connr ns ls (lk_ l) hg.w (wf_lk hg.hu).1 (wf_lk hg.hu).2) rfl rfl, hS _ (by kernel_rfl), hK _ ?_⟩
      refine hK15 _ ?_
      refine awp_seq_k fun K16 hK16 => ?_
      refine reg Γ_ok [0, 4, 5, 9, 10, 47] [] _ rfl fun K hK => ?_
      simp only [go_sem, Int.reduceToNat, ↓reduceIte, Nat.reduceEqDiff, Nat.reduceLT, Nat.reduceAdd, Nat.reduceMul, Nat.reduceLeDiff, reduceCtorEq]
      refine hK _ ?_
      refine hK16 _ ?_
      refine awp_dec rfl (fun e => ?_) (fun e => ?_)
      · have hg0 : stL (ns, ls, l) = ((connR ns ls (lk_ l)).1, (connR ns ls (lk_ l)).2.1, lkR l) := if_pos e
        have hg1 : (stL (ns, ls, l)).1 = (connR ns ls (lk_ l)).1 := congrArg (·.1) hg0
        have hg2 : (stL (ns, ls, l)).2.1 = (connR ns ls (lk_ l)).2.1 := congrArg (·.2.1) hg0
        have hg3 : (stL (ns, ls, l)).2.2 = lkR l := congrArg (·.2.2) hg0
        refine reg Γ_ok [0, 4, 5, 9] [] _ rfl fun K hK => ?_
        simp only [go_sem, Int.reduceToNat, ↓reduceIte, Nat.reduceEqDiff, Nat.reduceLT, Nat.reduceAdd, Nat.reduceMul, Nat.reduceLeDiff, reduceCtorEq]
        refine hK _ ?_
        refine hK14 _ ?_
        refine regc Γ_ok [0, 1, 2] [dc ((stL (ns, ls, l)).2.2), .bx [.nl, .nl], .bx [.ls 4 ((stL (ns, ls, l)).1.map encN), .ls 4 ((stL (ns, ls, l)).2.1.map encL)]] [(0, .pt 0 0), (4, .pt 1 0), (5, .pt 2 0), (9, .sc (.int .i64 (k : Nat)))] [(1, .i ((k : Nat) : Int))] (by kernel_rfl) _ rfl fun K hK => ?_
        simp only [go_sem, Int.reduceToNat, ↓reduceIte, Nat.reduceEqDiff, Nat.reduceLT, Nat.reduceAdd, Nat.reduceMul, Nat.reduceLeDiff, reduceCtorEq]
        refine ⟨wrap_dec (by omega), (by rw [hg1, hg2, hg3]; repeat' (first | rfl | constructor)), hK _ ?_⟩
        exact ⟨k, by omega, (stL (ns, ls, l)).1, (stL (ns, ls, l)).2.1, (stL (ns, ls, l)).2.2, by omega, good_stL hg, hz, rfl⟩
      · have hg0 : stL (ns, ls, l) = (ns, ls, lkR l) := if_neg e
        have hg1 : (stL (ns, ls, l)).1 = ns := congrArg (·.1) hg0
        have hg2 : (stL (ns, ls, l)).2.1 = ls := congrArg (·.2.1) hg0
        have hg3 : (stL (ns, ls, l)).2.2 = lkR l := congrArg (·.2.2) hg0
        refine awp_skip ?_
        refine hK14 _ ?_
        refine regc Γ_ok [0, 1, 2] [dc ((stL (ns, ls, l)).2.2), .bx [.nl, .nl], .bx [.ls 4 ((stL (ns, ls, l)).1.map encN), .ls 4 ((stL (ns, ls, l)).2.1.map encL)]] [(0, .pt 0 0), (4, .pt 1 0), (5, .pt 2 0), (9, .sc (.int .i64 (k : Nat)))] [(1, .i ((k : Nat) : Int))] (by kernel_rfl) _ rfl fun K hK => ?_
        simp only [go_sem, Int.reduceToNat, ↓reduceIte, Nat.reduceEqDiff, Nat.reduceLT, Nat.reduceAdd, Nat.reduceMul, Nat.reduceLeDiff, reduceCtorEq]
        refine ⟨wrap_dec (by omega), (by rw [hg1, hg2, hg3]; repeat' (first | rfl | constructor)), hK _ ?_⟩
        exact ⟨k, by omega, (stL (ns, ls, l)).1, (stL (ns, ls, l)).2.1, (stL (ns, ls, l)).2.2, by omega, good_stL hg, hz, rfl⟩
    · obtain rfl : m = 0 := by omega
      refine awp_exit ?_
      refine ex_th ?_
      refine ex_th ?_
      refine ex_in ?_
      refine hK10 _ ?_
      refine awp_seq_k fun K17 hK17 => ?_
      refine reg Γ_ok [4] [] _ rfl fun K hK => ?_
      simp only [go_sem, Int.reduceToNat, ↓reduceIte, Nat.reduceEqDiff, Nat.reduceLT, Nat.reduceAdd, Nat.reduceMul, Nat.reduceLeDiff, reduceCtorEq]
      refine hK _ ?_
      refine hK17 _ ?_
      refine awp_ret ?_
      have hz2 : (ns, ls, l) = mkG l0 := hz
      rw [← hz2]
      exact fin [0] (.inr rfl) rfl rfl rfl (by kernel_rfl) ⟨rfl, rfl, trivial⟩
end Go.Proofs.YtcbpghpfdjfddaaE
-- Declarations of the text that this claim uses (slim.py, a program of this session).
namespace Go.Proofs.YtcbpghpfdjfddaaE
open Go Go.RowKit
set_option linter.unusedVariables false
set_option linter.unusedSimpArgs false
section
variable {P : Program} {Γ : TEnv} {k0 n : Nat} {Q Q' : Exit → St → Prop} {σ : St}
theorem nlow {c : Code} (s : Nat) (e : TypeId) (sz : Nat) (hs : σ.get s = .nl) (hsz : 0 < sz) (h : AWp P k0 n c Q ⟨put σ.env (some s) (.ow σ.N), (σ.N, .row e sz []) :: σ.H, σ.N + 1⟩) : AWp P k0 n c Q σ := by
  intro cx h0 a w ⟨G, I, hg, hd, hn, hv⟩
  obtain ⟨g1, hm⟩ := hg.new (N := σ.N) (w' := w) (Nat.le_refl _) (fun _ => False) ⟨rfl, rfl, rfl, Nat.le_refl _, fun _ _ => rfl⟩ (fun b h => h.elim) (fun _ _ h => h) (fun _ _ _ h => h) (.row e sz []) (.slice none 0 0)
    ⟨hsz, fun r hr => (by cases hr), .slice none 0 0, [], rfl, ⟨by simp, .inl ⟨rfl, rfl⟩⟩, fun i j r x hi _ => (by simp at hi)⟩ (fun b h => by cases h)
  refine h cx h0 a w ⟨_, I, (g1.weak (fun t ht => ⟨Nat.le_trans (Nat.le_succ _) ht, fun e => ?_⟩)).ext (fun t => ?_), hd, hn, fun s' => ?_⟩
  · have : σ.N + 1 ≤ t := ht
    omega
  · rfl
  · show VR _ I w (lk ((s, .ow σ.N) :: rm σ.env s) s' .ud) _
    unfold lk
    by_cases e' : s = s'
    · rw [if_pos e']
      have := hv s'
      rw [← e', hs] at this
      subst e'
      generalize a.tmps.getD s undef = v at this
      cases this
      exact .ow σ.N none 0 0 (updG_one _ _ _)
    · rw [if_neg e', lk_rm, if_neg e']
      exact (hv s').mono hm
end
theorem cs0h {P : Program} {g : FuncId} {ags : List AV} {all : List AV} {h : Nat → HC} {N : Nat} {r : AV} {Hr : List HC} (ht : Tri P g ags [] r Hr) (he : AV.renL (idf [] N) ags = all) (hl : AV.ltL 0 ags = true) : CallSide P g all h N ags [] [] r Hr :=
  ⟨he, rfl, List.nodup_nil, fun t ht => (by cases ht), rfl, hl, rfl, ht⟩
end Go.Proofs.YtcbpghpfdjfddaaE
-- Declarations of the printer's words that this claim uses (slim.py, a program of this session).
namespace Go.Proofs.YtcbpghpfdjfddaaE
open Go Go.RowKit Go.Proofs.YtcbpghpfdjfddaaG
set_option linter.unusedVariables false
set_option linter.unusedSimpArgs false
def mdG (l : List Int) : MS := mkG (l.take (min l.length 300))
def mdN (l : List Int) : List Nd := (mdG l).1
def mdL (l : List Int) : List Lk := (mdG l).2.1
theorem u8_take {l : List Int} (h : U8 l) (n : Nat) : U8 (l.take n) := fun x hx => h x (List.mem_of_mem_take hx)
def ordG (ns : List Nd) (ls : List Lk) : List Int × Int := if validF ns ls = true then (ordF ns ls, 0) else ([], 1)
def inpF (ns : List Nd) (ls : List Lk) (id : Int) : List Lk := if validF ns ls = true then ls.filter (fun l => decide (l.f2 = id)) else []
theorem filt_t {α : Type} (p : α → Bool) {x : α} (h : p x = true) : [x].filter p = [x] := by simp [h]
theorem filt_f {α : Type} (p : α → Bool) {x : α} (h : p x = false) : [x].filter p = [] := by simp [h]
theorem filt_le {ls : List Lk} (p : Lk → Bool) (i : Nat) (h : ls.length ≤ 1000000) : ((ls.take i).filter p).length ≤ 1000000 := Nat.le_trans (List.length_filter_le _ _) (by rw [List.length_take]; omega)
set_option maxHeartbeats 4000000 in
theorem t_made (l : List Int) (hl : U8 l) : Tri Try.prog 11 [.ls 1 (l.map encU)] [] (gV (mdN l) (mdL l)) [] := by
  refine tri_of (n := 6) Γ_ok Try.func11 rfl rfl rfl (by simp only [go_sem, Nat.reduceLeDiff]) rfl (by simp only [go_sem, Nat.reduceLeDiff]) ?_
  refine awp_seq_k fun K1 hK1 => ?_
  refine reg Γ_ok [0, 2] [] _ rfl fun K hK => ?_
  simp only [go_sem, Int.reduceToNat, ↓reduceIte, Nat.reduceEqDiff, Nat.reduceLT, Nat.reduceAdd, Nat.reduceMul, Nat.reduceLeDiff, reduceCtorEq]
  refine hK _ ?_
  refine hK1 _ ?_
  refine awp_seq_k fun K2 hK2 => ?_
  refine reg Γ_ok [2] [(1, .call [.ls 1 (l.map encU)] [] [] (.pt 0 0) [dc (l.take (min l.length 300))]), (2, .call [.pt 0 0, .sc (.int .i64 9)] [1] [dc (l.take (min l.length 300))] (gV (mdN l) (mdL l)) [dc (mdG l).2.2])] _ rfl fun K hK => ?_
  simp only [go_sem, Int.reduceToNat, ↓reduceIte, Nat.reduceEqDiff, Nat.reduceLT, Nat.reduceAdd, Nat.reduceMul, Nat.reduceLeDiff, reduceCtorEq]
  refine ⟨cs0h (t_new l) rfl rfl, cs1a (t_graph (l.take (min l.length 300)) (u8_take hl _)) (by omega) rfl rfl rfl, hK _ ?_⟩
  refine hK2 _ ?_
  refine awp_ret ?_
  exact fin0 (.inr rfl) rfl rfl rfl
set_option maxHeartbeats 4000000 in
theorem t_gorder (ns : List Nd) (ls : List Lk) (hw : WfG ns ls) : Tri Try.prog 12 [gV ns ls] [] (.tp [.ls 1 ((ordG ns ls).1.map encI), .sc (.int .i64 (ordG ns ls).2)]) [] := by
  refine tri_of (n := 9) Γ_ok Try.func12 rfl rfl rfl (by simp only [go_sem, Nat.reduceLeDiff]) rfl (by simp only [go_sem, Nat.reduceLeDiff]) ?_
  refine awp_seq_k fun K1 hK1 => ?_
  refine reg Γ_ok [1] [] _ rfl fun K hK => ?_
  simp only [go_sem, Int.reduceToNat, ↓reduceIte, Nat.reduceEqDiff, Nat.reduceLT, Nat.reduceAdd, Nat.reduceMul, Nat.reduceLeDiff, reduceCtorEq]
  refine hK _ ?_
  refine hK1 _ ?_
  refine awp_seq_k fun K2 hK2 => ?_
  refine awp_seq_k fun K3 hK3 => ?_
  refine reg Γ_ok [1, 6] [(1, .call [gV ns ls] [] [] (.sc (.bool (validF ns ls))) [])] _ rfl fun K hK => ?_
  simp only [go_sem, Int.reduceToNat, ↓reduceIte, Nat.reduceEqDiff, Nat.reduceLT, Nat.reduceAdd, Nat.reduceMul, Nat.reduceLeDiff, reduceCtorEq]
  refine ⟨cs0 (t_valid ns ls hw) rfl rfl, hK _ ?_⟩
  refine hK3 _ ?_
  refine awp_cond _ rfl (fun e => ?_) (fun e => ?_)
  · have hv : validF ns ls = false := by have h : (!validF ns ls) = true := e; simpa using h
    refine awp_seq_k fun K4 hK4 => ?_
    refine reg Γ_ok [2, 3] [] _ rfl fun K hK => ?_
    simp only [go_sem, Int.reduceToNat, ↓reduceIte, Nat.reduceEqDiff, Nat.reduceLT, Nat.reduceAdd, Nat.reduceMul, Nat.reduceLeDiff, reduceCtorEq]
    refine hK _ ?_
    refine hK4 _ ?_
    refine view [(2, .ls 1 []), (3, .sc (.int .i64 1))] [] ?_ ?_ ?_
    · simp only [go_sem, ↓reduceIte, Nat.reduceEqDiff, and_self, and_true, true_and]; try trivial
    · trivial
    refine awp_ret ?_
    have hr : ordG ns ls = ([], 1) := by unfold ordG; rw [if_neg (by rw [hv]; simp)]
    rw [hr]
    exact fin0 (.inr rfl) rfl rfl rfl
  · have hv : validF ns ls = true := by have h : (!validF ns ls) = false := e; simpa using h
    refine awp_skip ?_
    refine hK2 _ ?_
    refine awp_seq_k fun K5 hK5 => ?_
    refine reg Γ_ok [2, 3] [(1, .call [gV ns ls] [] [] (.ls 1 ((ordF ns ls).map encI)) [])] _ rfl fun K hK => ?_
    simp only [go_sem, Int.reduceToNat, ↓reduceIte, Nat.reduceEqDiff, Nat.reduceLT, Nat.reduceAdd, Nat.reduceMul, Nat.reduceLeDiff, reduceCtorEq]
    refine ⟨cs0 (t_order_ ns ls hw (by have := validF_len hv; omega) (by have := validF_len hv; omega)) rfl rfl, hK _ ?_⟩
    refine hK5 _ ?_
    refine awp_ret ?_
    have hr : ordG ns ls = (ordF ns ls, 0) := by unfold ordG; rw [if_pos hv]
    rw [hr]
    exact fin0 (.inr rfl) rfl rfl rfl
set_option maxHeartbeats 4000000 in
theorem t_inputs (ns : List Nd) (ls : List Lk) (id : Int) (hw : WfG ns ls) : Tri Try.prog 20 [gV ns ls, .sc (.int .i64 id)] [] (.ls 4 ((inpF ns ls id).map encL)) [] := by
  refine tri_of (n := 27) Γ_ok Try.func20 rfl rfl rfl (by simp only [go_sem, Nat.reduceLeDiff]) rfl (by simp only [go_sem, Nat.reduceLeDiff]) ?_
  refine awp_seq_k fun K1 hK1 => ?_
  refine reg Γ_ok [1, 2] [] _ rfl fun K hK => ?_
  simp only [go_sem, Int.reduceToNat, ↓reduceIte, Nat.reduceEqDiff, Nat.reduceLT, Nat.reduceAdd, Nat.reduceMul, Nat.reduceLeDiff, reduceCtorEq]
  refine hK _ ?_
  refine hK1 _ ?_
  refine awp_seq_k fun K2 hK2 => ?_
  refine reg Γ_ok [1, 2, 5] [] _ rfl fun K hK => ?_
  simp only [go_sem, Int.reduceToNat, ↓reduceIte, Nat.reduceEqDiff, Nat.reduceLT, Nat.reduceAdd, Nat.reduceMul, Nat.reduceLeDiff, reduceCtorEq]
  refine hK _ ?_
  refine hK2 _ ?_
  refine awp_seq_k fun K3 hK3 => ?_
  refine awp_seq_k fun K4 hK4 => ?_
  cases hv : validF ns ls
  · refine reg Γ_ok [1, 2, 5, 9] [(1, .call [gV ns ls] [] [] (.sc (.bool false)) [])] _ rfl fun K hK => ?_
    simp only [go_sem, Int.reduceToNat, ↓reduceIte, Nat.reduceEqDiff, Nat.reduceLT, Nat.reduceAdd, Nat.reduceMul, Nat.reduceLeDiff, reduceCtorEq]
    refine ⟨cs0 (hv ▸ t_valid ns ls hw) rfl rfl, hK _ ?_⟩
    refine hK4 _ ?_
    refine awp_false rfl ?_
    refine awp_skip ?_
    refine hK3 _ ?_
    refine awp_seq_k fun K5 hK5 => ?_
    refine reg Γ_ok [4] [] _ rfl fun K hK => ?_
    simp only [go_sem, Int.reduceToNat, ↓reduceIte, Nat.reduceEqDiff, Nat.reduceLT, Nat.reduceAdd, Nat.reduceMul, Nat.reduceLeDiff, reduceCtorEq]
    refine hK _ ?_
    refine hK5 _ ?_
    refine view [(4, .ls 4 [])] [] ?_ ?_ ?_
    · simp only [go_sem, ↓reduceIte, Nat.reduceEqDiff, and_self, and_true, true_and]; try trivial
    · trivial
    refine awp_ret ?_
    have hr : inpF ns ls id = [] := by unfold inpF; rw [if_neg (by rw [hv]; simp)]
    rw [hr]
    exact fin0 (.inr rfl) rfl rfl rfl
  · refine reg Γ_ok [1, 2, 5, 9] [(1, .call [gV ns ls] [] [] (.sc (.bool true)) [])] _ rfl fun K hK => ?_
    simp only [go_sem, Int.reduceToNat, ↓reduceIte, Nat.reduceEqDiff, Nat.reduceLT, Nat.reduceAdd, Nat.reduceMul, Nat.reduceLeDiff, reduceCtorEq]
    refine ⟨cs0 (hv ▸ t_valid ns ls hw) rfl rfl, hK _ ?_⟩
    refine hK4 _ ?_
    refine awp_true rfl ?_
    refine awp_seq_k fun K6 hK6 => ?_
    refine reg Γ_ok [1, 5, 11, 12, 13] [] _ rfl fun K hK => ?_
    simp only [go_sem, Int.reduceToNat, ↓reduceIte, Nat.reduceEqDiff, Nat.reduceLT, Nat.reduceAdd, Nat.reduceMul, Nat.reduceLeDiff, reduceCtorEq]
    refine hK _ ?_
    refine hK6 _ ?_
    refine awp_block ?_
    refine nlow 5 45 4 rfl (by omega) ?_
    refine tell [1] [.row 45 4 (((ls.take (0)).filter (fun l : Lk => decide (l.f2 = id))).map encL)] [(1, .sc (.int .i64 id)), (5, .ow 0), (11, .ls 4 (ls.map encL)), (12, .sc (.int .i64 ls.length)), (13, .sc (.int .i64 (0 : Nat)))] (by kernel_rfl) ?_ ?_
    · simp only [go_sem, ↓reduceIte, Nat.reduceEqDiff, Nat.reduceLT, Nat.reduceAdd, Nat.reduceLeDiff]; repeat' (first | rfl | constructor)
    refine awp_loop (fun m σ => ∃ i : Nat, i ≤ ls.length ∧ m = ls.length - i ∧ σ = ⟨[(1, .sc (.int .i64 id)), (5, .ow 0), (11, .ls 4 (ls.map encL)), (12, .sc (.int .i64 ls.length)), (13, .sc (.int .i64 (i : Nat)))], [(0, .row 45 4 (((ls.take (i)).filter (fun l : Lk => decide (l.f2 = id))).map encL))], 1⟩) ls.length ⟨0, by omega, by omega, rfl⟩ ?_
    rintro m σ ⟨i, hi, rfl, rfl⟩
    refine awp_seq_k fun K7 hK7 => ?_
    refine reg Γ_ok [1, 5, 11, 12, 13, 14] [] _ rfl fun K hK => ?_
    simp only [go_sem, Int.reduceToNat, ↓reduceIte, Nat.reduceEqDiff, Nat.reduceLT, Nat.reduceAdd, Nat.reduceMul, Nat.reduceLeDiff, reduceCtorEq]
    refine hK _ ?_
    refine hK7 _ ?_
    refine awp_seq_k fun K8 hK8 => ?_
    refine awp_dec rfl (fun e => ?_) (fun e => ?_)
    · obtain ⟨x, hx⟩ : ∃ x, ls[i]? = some x := ⟨_, List.getElem?_eq_getElem (by omega)⟩
      have hfl := filt_le (fun l : Lk => decide (l.f2 = id)) i hw.2.2.2
      refine awp_skip ?_
      refine hK8 _ ?_
      refine awp_seq_k fun K9 hK9 => ?_
      refine awp_block ?_
      refine awp_seq_k fun K10 hK10 => ?_
      refine regc Γ_ok [0, 1] [.row 45 4 (((ls.take (i)).filter (fun l : Lk => decide (l.f2 = id))).map encL), .bx [.sc (.int .i64 x.f0), .sc (.int .i64 x.f1), .sc (.int .i64 x.f2), .sc (.int .i64 x.f3)]] [(1, .sc (.int .i64 id)), (5, .ow 0), (7, .pt 1 0), (11, .ls 4 (ls.map encL)), (12, .sc (.int .i64 ls.length)), (13, .sc (.int .i64 (i : Nat)))] [(0, .row (encL x))] (by kernel_rfl) _ rfl fun K hK => ?_
      simp only [go_sem, Int.reduceToNat, ↓reduceIte, Nat.reduceEqDiff, Nat.reduceLT, Nat.reduceAdd, Nat.reduceMul, Nat.reduceLeDiff, reduceCtorEq]
      refine ⟨⟨by omega, at_row hx⟩, (by repeat' (first | rfl | constructor)), hK _ ?_⟩
      refine hK10 _ ?_
      refine awp_seq_k fun K11 hK11 => ?_
      refine reg Γ_ok [1, 5, 7, 11, 12, 13, 20] [] _ rfl fun K hK => ?_
      simp only [go_sem, Int.reduceToNat, ↓reduceIte, Nat.reduceEqDiff, Nat.reduceLT, Nat.reduceAdd, Nat.reduceMul, Nat.reduceLeDiff, reduceCtorEq]
      refine hK _ ?_
      refine hK11 _ ?_
      refine awp_dec rfl (fun e => ?_) (fun e => ?_)
      · have hf : (ls.take (i + 1)).filter (fun l : Lk => decide (l.f2 = id)) = (ls.take i).filter (fun l : Lk => decide (l.f2 = id)) ++ [x] := by rw [take_at hx, List.filter_append, filt_t (fun l : Lk => decide (l.f2 = id)) (decide_eq_true e)]
        refine regc Γ_ok [3, 1] [.row 45 4 (((ls.take i).filter (fun l : Lk => decide (l.f2 = id)) ++ [x]).map encL), .bx [.sc (.int .i64 x.f0), .sc (.int .i64 x.f1), .sc (.int .i64 x.f2), .sc (.int .i64 x.f3)]] [(1, .sc (.int .i64 id)), (5, .ow 0), (7, .pt 1 0), (11, .ls 4 (ls.map encL)), (12, .sc (.int .i64 ls.length)), (13, .sc (.int .i64 (i : Nat)))] [] (by kernel_rfl) _ rfl fun K hK => ?_
        simp only [go_sem, Int.reduceToNat, ↓reduceIte, Nat.reduceEqDiff, Nat.reduceLT, Nat.reduceAdd, Nat.reduceMul, Nat.reduceLeDiff, reduceCtorEq]
        refine ⟨(by refine ⟨rfl, ?_, ?_⟩ <;> (try simp [maxLen]) <;> omega), ⟨by rw [List.map_append]; rfl, (by repeat' (first | rfl | constructor))⟩, hK _ ?_⟩
        refine hK9 _ ?_
        refine regc Γ_ok [0] [.row 45 4 (((ls.take (i + 1)).filter (fun l : Lk => decide (l.f2 = id))).map encL)] [(1, .sc (.int .i64 id)), (5, .ow 0), (11, .ls 4 (ls.map encL)), (12, .sc (.int .i64 ls.length)), (13, .sc (.int .i64 (i + 1 : Nat)))] [(0, .i ((i + 1 : Nat) : Int))] (by kernel_rfl) _ rfl fun K hK => ?_
        simp only [go_sem, Int.reduceToNat, ↓reduceIte, Nat.reduceEqDiff, Nat.reduceLT, Nat.reduceAdd, Nat.reduceMul, Nat.reduceLeDiff, reduceCtorEq]
        refine ⟨wrap_succ (le_mx (by omega) hw.2.2.2), (by rw [hf]; repeat' (first | rfl | constructor)), hK _ ?_⟩
        exact ⟨_, by omega, i + 1, by omega, rfl, rfl⟩
      · have hf : (ls.take (i + 1)).filter (fun l : Lk => decide (l.f2 = id)) = (ls.take i).filter (fun l : Lk => decide (l.f2 = id)) := by rw [take_at hx, List.filter_append, filt_f (fun l : Lk => decide (l.f2 = id)) (decide_eq_false e), List.append_nil]
        refine awp_skip ?_
        refine hK9 _ ?_
        refine regc Γ_ok [0] [.row 45 4 (((ls.take (i + 1)).filter (fun l : Lk => decide (l.f2 = id))).map encL)] [(1, .sc (.int .i64 id)), (5, .ow 0), (11, .ls 4 (ls.map encL)), (12, .sc (.int .i64 ls.length)), (13, .sc (.int .i64 (i + 1 : Nat)))] [(0, .i ((i + 1 : Nat) : Int))] (by kernel_rfl) _ rfl fun K hK => ?_
        simp only [go_sem, Int.reduceToNat, ↓reduceIte, Nat.reduceEqDiff, Nat.reduceLT, Nat.reduceAdd, Nat.reduceMul, Nat.reduceLeDiff, reduceCtorEq]
        refine ⟨wrap_succ (le_mx (by omega) hw.2.2.2), (by rw [hf]; repeat' (first | rfl | constructor)), hK _ ?_⟩
        exact ⟨_, by omega, i + 1, by omega, rfl, rfl⟩
    · have hi2 : i = ls.length := by omega
      refine awp_exit ?_
      refine ex_th ?_
      refine ex_th ?_
      refine ex_in ?_
      refine hK3 _ ?_
      refine awp_seq_k fun K12 hK12 => ?_
      refine reg Γ_ok [4] [] _ rfl fun K hK => ?_
      simp only [go_sem, Int.reduceToNat, ↓reduceIte, Nat.reduceEqDiff, Nat.reduceLT, Nat.reduceAdd, Nat.reduceMul, Nat.reduceLeDiff, reduceCtorEq]
      refine hK _ ?_
      refine hK12 _ ?_
      refine frz 0 45 4 (((ls.take i).filter (fun l : Lk => decide (l.f2 = id))).map encL) rfl ?_
      refine awp_ret ?_
      have hr : inpF ns ls id = (ls.take i).filter (fun l : Lk => decide (l.f2 = id)) := by unfold inpF; rw [if_pos hv, hi2, List.take_length]
      rw [hr]
      exact fin0 (.inr rfl) rfl rfl rfl
end Go.Proofs.YtcbpghpfdjfddaaE
-- Declarations of the printer's words that this claim uses (slim.py, a program of this session).
namespace Go.Proofs.YtcbpghpfdjfddaaE
open Go Go.RowKit Go.Proofs.YtcbpghpfdjfddaaG
set_option linter.unusedVariables false
set_option linter.unusedSimpArgs false
def sN : List Nd := [⟨1, 1, 0, 1⟩, ⟨2, 1, 0, 1⟩, ⟨3, 3, 2, 1⟩, ⟨4, 2, 1, 0⟩]
def sL1 : List Lk := [⟨1, 0, 3, 0⟩]
def sL2 : List Lk := [⟨1, 0, 3, 0⟩, ⟨2, 0, 3, 1⟩]
def sL3 : List Lk := [⟨1, 0, 3, 0⟩, ⟨2, 0, 3, 1⟩, ⟨3, 0, 4, 0⟩]
theorem s_c1 : connF sN [] ⟨1, 0, 3, 0⟩ = (sN, sL1, 0) := by kernel_rfl
theorem s_c2 : connF sN sL1 ⟨2, 0, 3, 1⟩ = (sN, sL2, 0) := by kernel_rfl
theorem s_c3 : connF sN sL2 ⟨3, 0, 4, 0⟩ = (sN, sL3, 0) := by kernel_rfl
theorem s_v : validF sN sL3 = true := by kernel_rfl
theorem s_o : ordF sN sL3 = [1, 2, 3, 4] := by kernel_rfl
theorem s_r : reachF sN sL3 1 = [3, 4] := by
  unfold reachF
  rw [if_pos s_v, s_o]
  have : rch 1 sL3 [1, 2, 3, 4] [] = [3, 4] := by kernel_rfl
  rw [this]
  unfold srt
  exact List.mergeSort_of_pairwise (by simp)
theorem s_og : ordG sN sL3 = ([1, 2, 3, 4], 0) := by unfold ordG; rw [if_pos s_v, s_o]
theorem s_i : inpF sN sL3 3 = sL2 := by unfold inpF; rw [if_pos s_v]; kernel_rfl
theorem s_w {ls : List Lk} (h : (ls.all fun l => (Lit.int .i64 l.f0).wf && (Lit.int .i64 l.f2).wf) = true) (hl : ls.length ≤ 3) : WfG sN ls := by
  refine ⟨fun n hn => ?_, fun l hl => ?_, by decide, by omega⟩
  · have : (sN.all fun n => (Lit.int .i64 n.f0).wf) = true := by kernel_rfl
    exact List.all_eq_true.1 this n hn
  · have := List.all_eq_true.1 h l hl
    rw [Bool.and_eq_true] at this
    exact this
theorem t_c1 : Tri Try.prog 24 [gV sN [], agL ⟨1, 0, 3, 0⟩] [] (.tp [gV sN sL1, .sc (.int .i64 0)]) [] := by
  have h := t_connect sN [] ⟨1, 0, 3, 0⟩ (s_w (by kernel_rfl) (by decide)) (wf_of (by decide) (by decide)) (wf_of (by decide) (by decide))
  rw [s_c1] at h; exact h
theorem t_c2 : Tri Try.prog 24 [gV sN sL1, agL ⟨2, 0, 3, 1⟩] [] (.tp [gV sN sL2, .sc (.int .i64 0)]) [] := by
  have h := t_connect sN sL1 ⟨2, 0, 3, 1⟩ (s_w (by kernel_rfl) (by decide)) (wf_of (by decide) (by decide)) (wf_of (by decide) (by decide))
  rw [s_c2] at h; exact h
theorem t_c3 : Tri Try.prog 24 [gV sN sL2, agL ⟨3, 0, 4, 0⟩] [] (.tp [gV sN sL3, .sc (.int .i64 0)]) [] := by
  have h := t_connect sN sL2 ⟨3, 0, 4, 0⟩ (s_w (by kernel_rfl) (by decide)) (wf_of (by decide) (by decide)) (wf_of (by decide) (by decide))
  rw [s_c3] at h; exact h
theorem s_w3 : WfG sN sL3 := s_w (by kernel_rfl) (by decide)
theorem t_o : Tri Try.prog 12 [gV sN sL3] [] (.tp [.ls 1 (([1, 2, 3, 4] : List Int).map encI), .sc (.int .i64 0)]) [] := by
  have h := t_gorder sN sL3 s_w3
  rw [s_og] at h; exact h
theorem t_r : Tri Try.prog 17 [gV sN sL3, .sc (.int .i64 1)] [] (.ls 1 (([3, 4] : List Int).map encI)) [] := by
  have h := t_reach sN sL3 1 s_w3 (wf_of (by decide) (by decide))
  rw [s_r] at h; exact h
theorem t_i : Tri Try.prog 20 [gV sN sL3, .sc (.int .i64 3)] [] (.ls 4 (sL2.map encL)) [] := by
  have h := t_inputs sN sL3 3 s_w3
  rw [s_i] at h; exact h
theorem t_v : Tri Try.prog 14 [gV sN sL3] [] (.sc (.bool true)) [] := by
  have h := t_valid sN sL3 s_w3
  rw [s_v] at h; exact h
set_option maxHeartbeats 4000000 in
set_option maxRecDepth 20000 in
theorem t_sane  : Tri Try.prog 9 [] [] (.sc (.bool true)) [] := by
  refine tri_of (n := 85) Γ_ok Try.func9 rfl rfl rfl (by simp only [go_sem, Nat.reduceLeDiff]) rfl (by simp only [go_sem, Nat.reduceLeDiff]) ?_
  refine awp_seq_k fun K1 hK1 => ?_
  refine reg Γ_ok [] [] _ rfl fun K hK => ?_
  simp only [go_sem, Int.reduceToNat, ↓reduceIte, Nat.reduceEqDiff, Nat.reduceLT, Nat.reduceAdd, Nat.reduceMul, Nat.reduceLeDiff, reduceCtorEq]
  refine hK _ ?_
  refine hK1 _ ?_
  refine awp_seq_k fun K2 hK2 => ?_
  refine reg Γ_ok [1] [] _ rfl fun K hK => ?_
  simp only [go_sem, Int.reduceToNat, ↓reduceIte, Nat.reduceEqDiff, Nat.reduceLT, Nat.reduceAdd, Nat.reduceMul, Nat.reduceLeDiff, reduceCtorEq]
  refine hK _ ?_
  refine hK2 _ ?_
  refine awp_seq_k fun K3 hK3 => ?_
  refine frz 0 43 4 (sN.map encN) rfl ?_
  refine view [(1, .pt 1 0)] [(1, .bx [.ls 4 (sN.map encN), .ls 4 []])] ?_ ?_ ?_
  · simp only [go_sem, ↓reduceIte, Nat.reduceEqDiff, and_self, and_true, true_and]; repeat' (first | rfl | constructor)
  · simp only [go_sem, ↓reduceIte, Nat.reduceEqDiff, and_self, and_true, true_and]; repeat' (first | rfl | constructor)
  refine reg Γ_ok [1, 2] [(2, .call [gV sN [], agL ⟨1, 0, 3, 0⟩] [] [] (.tp [gV sN sL1, .sc (.int .i64 0)]) [])] _ rfl fun K hK => ?_
  simp only [go_sem, Int.reduceToNat, ↓reduceIte, Nat.reduceEqDiff, Nat.reduceLT, Nat.reduceAdd, Nat.reduceMul, Nat.reduceLeDiff, reduceCtorEq]
  refine ⟨cs0 t_c1 rfl rfl, hK _ ?_⟩
  refine hK3 _ ?_
  refine awp_seq_k fun K4 hK4 => ?_
  refine reg Γ_ok [1, 2, 3] [(2, .call [gV sN sL1, agL ⟨2, 0, 3, 1⟩] [] [] (.tp [gV sN sL2, .sc (.int .i64 0)]) [])] _ rfl fun K hK => ?_
  simp only [go_sem, Int.reduceToNat, ↓reduceIte, Nat.reduceEqDiff, Nat.reduceLT, Nat.reduceAdd, Nat.reduceMul, Nat.reduceLeDiff, reduceCtorEq]
  refine ⟨cs0 t_c2 rfl rfl, hK _ ?_⟩
  refine hK4 _ ?_
  refine awp_seq_k fun K5 hK5 => ?_
  refine reg Γ_ok [1, 2, 3, 4] [(2, .call [gV sN sL2, agL ⟨3, 0, 4, 0⟩] [] [] (.tp [gV sN sL3, .sc (.int .i64 0)]) [])] _ rfl fun K hK => ?_
  simp only [go_sem, Int.reduceToNat, ↓reduceIte, Nat.reduceEqDiff, Nat.reduceLT, Nat.reduceAdd, Nat.reduceMul, Nat.reduceLeDiff, reduceCtorEq]
  refine ⟨cs0 t_c3 rfl rfl, hK _ ?_⟩
  refine hK5 _ ?_
  refine awp_seq_k fun K6 hK6 => ?_
  refine reg Γ_ok [1, 2, 3, 4, 5, 6] [(1, .call [gV sN sL3] [] [] (.tp [.ls 1 (([1, 2, 3, 4] : List Int).map encI), .sc (.int .i64 0)]) [])] _ rfl fun K hK => ?_
  simp only [go_sem, Int.reduceToNat, ↓reduceIte, Nat.reduceEqDiff, Nat.reduceLT, Nat.reduceAdd, Nat.reduceMul, Nat.reduceLeDiff, reduceCtorEq]
  refine ⟨cs0 t_o rfl rfl, hK _ ?_⟩
  refine hK6 _ ?_
  refine awp_seq_k fun K7 hK7 => ?_
  refine reg Γ_ok [1, 2, 3, 4, 5, 6, 7] [(1, .call [gV sN sL3, .sc (.int .i64 1)] [] [] (.ls 1 (([3, 4] : List Int).map encI)) [])] _ rfl fun K hK => ?_
  simp only [go_sem, Int.reduceToNat, ↓reduceIte, Nat.reduceEqDiff, Nat.reduceLT, Nat.reduceAdd, Nat.reduceMul, Nat.reduceLeDiff, reduceCtorEq]
  refine ⟨cs0 t_r rfl rfl, hK _ ?_⟩
  refine hK7 _ ?_
  refine awp_seq_k fun K8 hK8 => ?_
  refine reg Γ_ok [0] [(1, .b true), (4, .b true), (8, .b true), (12, .b true), (17, .b true), (21, .row (encI 3)), (23, .b true), (27, .row (encI 4)), (29, .b true), (34, .b true), (38, .call [gV sN sL3, .sc (.int .i64 3)] [] [] (.ls 4 (sL2.map encL)) []), (40, .b true), (44, .call [gV sN sL3] [] [] (.sc (.bool true)) [])] [some 39, some 40, some 41, some 42, some 43, some 44, some 45, some 46, some 47, some 48, some 49, some 50, some 51, some 52, some 53, some 54, some 55, some 56, some 57, some 58, some 59, some 60, some 61, some 62, some 63, some 64, some 65, some 66, some 67, some 68, some 69, some 70, some 71, some 72, some 73, some 74, some 75, some 76, some 77, some 78, some 79, some 80, some 81, some 82, some 83, some 84, some 0] rfl fun K hK => ?_
  simp only [go_sem, Int.reduceToNat, ↓reduceIte, Nat.reduceEqDiff, Nat.reduceLT, Nat.reduceAdd, Nat.reduceMul, Nat.reduceLeDiff, reduceCtorEq]
  refine ⟨by decide, by omega, by omega, by decide, cs0 t_i rfl rfl, by decide, cs0 t_v rfl rfl, hK _ ?_⟩
  refine hK8 _ ?_
  refine awp_ret ?_
  exact fin_b rfl (.inr rfl) rfl
end Go.Proofs.YtcbpghpfdjfddaaE
-- Declarations of the text that this claim uses (slim.py, a program of this session).
namespace Go.Proofs.YtcbpghpfdjfddaaE
open Go Go.RowKit Go.Proofs.YtcbpghpfdjfddaaW.PrintWords Go.Proofs.YtcbpghpfdjfddaaW.PrintLast Go.Proofs.YtcbpghpfdjfddaaW.PrintMore
set_option linter.unusedVariables false
set_option linter.unusedSimpArgs false
def Iall (w : World) (a : Addr) : Prop := a.spot = none ∧ (w.cell? a).isSome = true
theorem spot_of {w : World} {a : Addr} {v : Value} (h : w.cell? a = some v) : a.spot = none := by
  unfold World.cell? at h
  split at h
  · split at h
    · cases h
    · rename_i hs
      cases ha : a.spot with
      | none => rfl
      | some s => rw [ha] at hs; simp at hs
  · cases h
theorem vr_of {α : Type} {d : Kd α} {vals : α → List Value} {enc : α → List D} {sz : Nat} (hf : Flat d vals enc sz) (hK : ∀ w x cs, d.K w x cs → cs = vals x) (G : Gh) {w : World} {A : Option Addr} {c : Nat} {xs : List α} (h : Kd.C d w A xs.length xs) (hc : xs.length ≤ c) : VR G (Iall w) w (.ls sz (xs.map enc)) (.slice A xs.length c) := by
  rcases Nat.eq_zero_or_pos xs.length with h0 | h0
  · obtain rfl := List.length_eq_zero_iff.1 h0
    exact .ls _ _ _ (.l sz [] ⟨0, 0, none⟩ A c (fun _ _ => undef) hc (fun r hr => by cases hr) (fun h => absurd rfl h) rfl (fun i j r x h => by simp at h) (fun i j r x h => by simp at h))
  obtain ⟨ad, rfl, hcell⟩ := h.2.2 h0
  have hpt : ∀ (i j : Nat) (r : List D) (y : D), (xs.map enc)[i]? = some r → r[j]? = some y → ∃ p u, xs[i]? = some p ∧ (vals p)[j]? = some u ∧ y = .v u ∧ w.cell? (ad.add (i * sz + j)) = some u := by
    intro i j r y hi hj
    rw [List.getElem?_map] at hi
    obtain ⟨p, hp, rfl⟩ := Option.map_eq_some_iff.1 hi
    rw [hf.enc, List.getElem?_map] at hj
    obtain ⟨u, hu, rfl⟩ := Option.map_eq_some_iff.1 hj
    obtain ⟨cs, _, hk, hcs⟩ := hcell i p hp
    rw [hK _ _ _ hk, hf.size] at hcs
    exact ⟨p, u, hp, hu, rfl, hcs j u hu⟩
  have hsp : ad.spot = none := by
    have hp : xs[0]? = some xs[0] := List.getElem?_eq_getElem h0
    obtain ⟨cs, hl, hk, hcs⟩ := hcell 0 _ hp
    rw [hf.size] at hl hcs
    have hpos := hf.pos
    have hu : cs[0]? = some cs[0] := List.getElem?_eq_getElem (by omega)
    have h1 := spot_of (hcs 0 _ hu)
    rw [Nat.zero_mul, Nat.zero_add] at h1
    unfold Addr.add at h1
    rw [if_pos rfl] at h1
    exact h1
  have hlen : (xs.map enc).length = xs.length := List.length_map _
  rw [← hlen]
  refine .ls _ _ _ (.l sz (xs.map enc) ad (some ad) c (fun i j => match xs[i]? with | some x => (vals x).getD j undef | none => undef) (by rw [hlen]; exact hc) hf.row (fun _ => rfl) hsp (fun i j r y hi hj => ?_) (fun i j r y hi hj => ?_))
  · obtain ⟨p, u, h1, h2, h3, h4⟩ := hpt i j r y hi hj
    refine ⟨⟨Mono.addr hsp, by rw [h4]; rfl⟩, ?_⟩
    simp only [h1]
    rw [h4, List.getD_eq_getElem?_getD, h2]; rfl
  · obtain ⟨p, u, h1, h2, h3, h4⟩ := hpt i j r y hi hj
    simp only [h1]
    rw [List.getD_eq_getElem?_getD, h2, h3]
    exact .v u (hf.one p u (List.mem_of_getElem? h2))
theorem Tri.run {P : Program} {f : FuncId} {ags : List AV} {x : Value} (h : Tri P f ags [] (.sc x) []) {w : World} {vs : Array Value} (hn : vs.size = ags.length) (hv : ∀ (i : Nat) (y : AV), ags[i]? = some y → VR (fun _ => none) (Iall w) w y (vs.getD i undef)) : Calls P f vs w fun e w' => e = .returned x ∧ Below w.heap.size w w' := by
  obtain ⟨_, _, h3⟩ := h
  refine Calls.mono (h3 (fun _ => none) (Iall w) w vs ⟨fun t => trivial, fun t t' b _ hb => (by cases hb), fun a ha => ⟨ha.1, ha.2, fun t hb => (by cases hb)⟩, fun t _ => ⟨rfl, rfl⟩⟩ hn hv) ?_
  rintro e w' ⟨v, G', I', rfl, hg, hr⟩
  cases hr with
  | sc _ _ =>
    refine ⟨rfl, hg.c.os, hg.c.tape, hg.c.output, hg.c.size, fun k hk => hg.c.frame k ?_⟩
    rintro (h | ⟨t, ht⟩)
    · exact absurd hk (Nat.not_lt.2 h)
    · cases ht
end Go.Proofs.YtcbpghpfdjfddaaE
-- Declarations of the printer's words that this claim uses (slim.py, a program of this session).
namespace Go.Proofs.YtcbpghpfdjfddaaE
open Go Go.RowKit Go.Proofs.YtcbpghpfdjfddaaG
set_option linter.unusedVariables false
set_option linter.unusedSimpArgs false
theorem good_itN : ∀ (k : Nat) (s : MS), Good s.1 s.2.1 s.2.2 → Good (itN k s).1 (itN k s).2.1 (itN k s).2.2
  | 0, s, h => h
  | k + 1, s, h => good_itN k (stN s) (good_stN h)
theorem good_itL : ∀ (k : Nat) (s : MS), Good s.1 s.2.1 s.2.2 → Good (itL k s).1 (itL k s).2.1 (itL k s).2.2
  | 0, s, h => h
  | k + 1, s, h => good_itL k (stL s) (good_stL h)
theorem good_mk {l : List Int} (h : U8 l) : Good (mkG l).1 (mkG l).2.1 (mkG l).2.2 := by
  have h1 := good_itN (nx l 10).toNat ([], [], rs l 10) ⟨fun n h => (by cases h), fun n h => (by cases h), Nat.zero_le _, Nat.zero_le _, u8_rs h 10⟩
  exact good_itL _ _ ⟨h1.hn, h1.hl, h1.hnl, h1.hll, u8_rs h1.hu 12⟩
theorem good_md {l : List Int} (h : U8 l) : Good (mdN l) (mdL l) (mdG l).2.2 := good_mk (u8_take h _)
theorem conn_cases (ns : List Nd) (ls : List Lk) (x : Lk) : ((connF ns ls x).1 = [] ∧ (connF ns ls x).2.1 = [] ∧ (connF ns ls x).2.2 ≠ 0) ∨ (validF ns ls = true ∧ endsB ns x = true ∧ fndB ls x = false ∧ ¬ ls.length = 256 ∧ (ls.any fun k => clashB ns k x) = false ∧ ¬ (ordF ns (insF ls x)).length < ns.length ∧ connF ns ls x = (ns, insF ls x, 0)) := by
  unfold connF
  split
  case isFalse => exact .inl ⟨rfl, rfl, by decide⟩
  split
  case isFalse => exact .inl ⟨rfl, rfl, by decide⟩
  split
  case isTrue => exact .inl ⟨rfl, rfl, by decide⟩
  split
  case isTrue => exact .inl ⟨rfl, rfl, by decide⟩
  split
  case isTrue => exact .inl ⟨rfl, rfl, by decide⟩
  split
  case isTrue => exact .inl ⟨rfl, rfl, by decide⟩
  rename_i h1 h2 h3 h4 h5 h6
  exact .inr ⟨h1, h2, by simpa using h3, h4, by simpa using h5, h6, rfl⟩
theorem wfg_conn {ns : List Nd} {ls : List Lk} {x : Lk} (hw : WfG ns ls) (h0 : wf x.f0) (h2 : wf x.f2) : WfG (connF ns ls x).1 (connF ns ls x).2.1 := by
  rcases conn_cases ns ls x with ⟨e1, e2, _⟩ | ⟨hv, _, _, _, _, _, e⟩
  · rw [e1, e2]
    exact ⟨fun n h => (by cases h), fun n h => (by cases h), Nat.zero_le _, Nat.zero_le _⟩
  · rw [e]
    have := validF_len hv
    refine ⟨hw.1, fun l hl => ?_, hw.2.2.1, by rw [insF_length]; omega⟩
    rcases insF_mem hl with h | rfl
    · exact hw.2.1 l h
    · exact ⟨h0, h2⟩
theorem inn_le (id n : Int) : ∀ (ls : List Lk) (out : List Int), (inn id n ls out).length ≤ out.length + ls.length
  | [], out => Nat.le_refl _
  | l :: r, out => by
    rw [inn_cons]
    have := inn_le id n r (if (decide (l.f0 = n) && (dn id out n && !dn id out l.f2)) = true then out ++ [l.f2] else out)
    split at this
    · rename_i h; rw [if_pos h]; simp at this ⊢; omega
    · rename_i h; rw [if_neg h]; simp at this ⊢; omega
theorem rch_le (id : Int) (ls : List Lk) : ∀ (l out : List Int), (rch id ls l out).length ≤ out.length + l.length * ls.length
  | [], out => by show out.length ≤ _; omega
  | n :: r, out => by
    rw [rch_cons]
    have h1 := rch_le id ls r (inn id n ls out)
    have h2 := inn_le id n ls out
    rw [List.length_cons, Nat.succ_mul]
    omega
theorem reach_len (ns : List Nd) (ls : List Lk) (id : Int) : (reachF ns ls id).length ≤ 1000000 := by
  unfold reachF
  split
  · rename_i hv
    rw [srt_len]
    have h1 := rch_le id ls (ordF ns ls) []
    obtain ⟨h2, h3⟩ := validF_len hv
    have h4 : (ordF ns ls).length = ns.length := by
      unfold validF at hv
      simp only [Bool.and_eq_true, decide_eq_true_eq] at hv
      exact hv.2.2.2
    have h5 : (ordF ns ls).length * ls.length ≤ 64 * 256 := Nat.mul_le_mul (by omega) h3
    simp at h1
    omega
  · exact Nat.zero_le _
def cycB (ns : List Nd) (ls : List Lk) (x : Lk) : Bool :=
  let back := decide (x.f0 = x.f2) || (reachF ns ls x.f2).any fun y => decide (y = x.f0)
  if (connF ns ls x).2.2 = 12 then back && decide ((connF ns ls x).1.length = 0) else if (connF ns ls x).2.2 ≠ 0 then decide ((connF ns ls x).1.length = 0)
  else !back && (((reachF (connF ns ls x).1 (connF ns ls x).2.1 x.f0).any fun y => decide (y = x.f2)) && validF (connF ns ls x).1 (connF ns ls x).2.1)
theorem any_take_at {α : Type} {xs : List α} {i : Nat} {x : α} (p : α → Bool) (h : xs[i]? = some x) : (xs.take (i + 1)).any p = ((xs.take i).any p || p x) := by
  rw [take_at h, List.any_append]; simp
set_option maxHeartbeats 4000000 in
set_option maxRecDepth 20000 in
theorem t_cycles (l l2 : List Int) (hl : U8 l) (hl2 : U8 l2) : Tri Try.prog 5 [.ls 1 (l.map encU), .ls 1 (l2.map encU)] [] (.sc (.bool (cycB (mdN l) (mdL l) (lk_ (l2.take (min l2.length 300)))))) [] := by
  have hg := good_md hl
  have hm := u8_take hl2 (min l2.length 300)
  have hx0 := wf_lk hm
  have hmd := t_made l hl
  have hw := hg.w
  have htl := t_link (l2.take (min l2.length 300)) hm
  generalize mdN l = ns at *
  generalize mdL l = ls at *
  generalize lk_ (l2.take (min l2.length 300)) = x at *
  have hw2 := wfg_conn hw hx0.1 hx0.2
  have hl1 := reach_len ns ls x.f2
  have hl3 := reach_len (connF ns ls x).1 (connF ns ls x).2.1 x.f0
  refine tri_of (n := 91) Γ_ok Try.func5 rfl rfl rfl (by simp only [go_sem, Nat.reduceLeDiff]) rfl (by simp only [go_sem, Nat.reduceLeDiff]) ?_
  refine awp_seq_k fun K1 hK1 => ?_
  refine reg Γ_ok [0, 1] [] _ rfl fun K hK => ?_
  simp only [go_sem, Int.reduceToNat, ↓reduceIte, Nat.reduceEqDiff, Nat.reduceLT, Nat.reduceAdd, Nat.reduceMul, Nat.reduceLeDiff, reduceCtorEq]
  refine hK _ ?_
  refine hK1 _ ?_
  refine awp_seq_k fun K2 hK2 => ?_
  refine awp_seq_k fun K3 hK3 => ?_
  refine reg Γ_ok [0, 1, 16] [(0, .call [] [] [] (.sc (.bool true)) []), (1, .b false)] _ rfl fun K hK => ?_
  simp only [go_sem, Int.reduceToNat, ↓reduceIte, Nat.reduceEqDiff, Nat.reduceLT, Nat.reduceAdd, Nat.reduceMul, Nat.reduceLeDiff, reduceCtorEq]
  refine ⟨cs0 t_sane rfl rfl, hK _ ?_⟩
  refine hK3 _ ?_
  refine awp_false rfl ?_
  refine awp_skip ?_
  refine hK2 _ ?_
  refine awp_seq_k fun K4 hK4 => ?_
  refine reg Γ_ok [1, 5] [(1, .call [.ls 1 (l.map encU)] [] [] (gV ns ls) [])] _ rfl fun K hK => ?_
  simp only [go_sem, Int.reduceToNat, ↓reduceIte, Nat.reduceEqDiff, Nat.reduceLT, Nat.reduceAdd, Nat.reduceMul, Nat.reduceLeDiff, reduceCtorEq]
  refine ⟨cs0 hmd rfl rfl, hK _ ?_⟩
  refine hK4 _ ?_
  refine awp_seq_k fun K5 hK5 => ?_
  refine regc Γ_ok [0, 2] [.bx [.ls 4 (ns.map encN), .ls 4 (ls.map encL)], .bx [.sc (.int .i64 x.f0), .sc (.int .i64 x.f1), .sc (.int .i64 x.f2), .sc (.int .i64 x.f3)]] [(5, .pt 0 0), (6, .pt 1 0)] [(1, .call [.ls 1 (l2.map encU)] [] [] (.pt 0 0) [dc (l2.take (min l2.length 300))]), (2, .call [.pt 0 0] [1] [dc (l2.take (min l2.length 300))] (agL x) [dc (lkR (l2.take (min l2.length 300)))])] (by kernel_rfl) _ rfl fun K hK => ?_
  simp only [go_sem, Int.reduceToNat, ↓reduceIte, Nat.reduceEqDiff, Nat.reduceLT, Nat.reduceAdd, Nat.reduceMul, Nat.reduceLeDiff, reduceCtorEq]
  refine ⟨cs0h (t_new l2) rfl rfl, cs1a htl (by omega) rfl rfl rfl, (by repeat' (first | rfl | constructor)), hK _ ?_⟩
  refine hK5 _ ?_
  refine awp_seq_k fun K6 hK6 => ?_
  refine reg Γ_ok [5, 6, 7] [] _ rfl fun K hK => ?_
  simp only [go_sem, Int.reduceToNat, ↓reduceIte, Nat.reduceEqDiff, Nat.reduceLT, Nat.reduceAdd, Nat.reduceMul, Nat.reduceLeDiff, reduceCtorEq]
  refine hK _ ?_
  refine hK6 _ ?_
  refine awp_seq_k fun K7 hK7 => ?_
  refine awp_seq_k fun K8 hK8 => ?_
  refine reg Γ_ok [5, 6, 7, 30, 31, 32] [(3, .call [gV ns ls, .sc (.int .i64 x.f2)] [] [] (.ls 1 ((reachF ns ls x.f2).map encI)) [])] _ rfl fun K hK => ?_
  simp only [go_sem, Int.reduceToNat, ↓reduceIte, Nat.reduceEqDiff, Nat.reduceLT, Nat.reduceAdd, Nat.reduceMul, Nat.reduceLeDiff, reduceCtorEq]
  refine ⟨cs0 (t_reach ns ls x.f2 hw hx0.2) rfl rfl, hK _ ?_⟩
  refine hK8 _ ?_
  refine awp_block ?_
  refine awp_loop (fun m σ => ∃ (i : Nat) (b : Bool), i ≤ (reachF ns ls x.f2).length ∧ m = (reachF ns ls x.f2).length - i ∧ b = (decide (x.f0 = x.f2) || ((reachF ns ls x.f2).take i).any fun y => decide (y = x.f0)) ∧ σ = ⟨[(5, .pt 0 0), (6, .pt 1 0), (7, .sc (.bool b)), (30, .ls 1 ((reachF ns ls x.f2).map encI)), (31, .sc (.int .i64 (reachF ns ls x.f2).length)), (32, .sc (.int .i64 (i : Nat)))], [(0, .bx [.ls 4 (ns.map encN), .ls 4 (ls.map encL)]), (1, .bx [.sc (.int .i64 x.f0), .sc (.int .i64 x.f1), .sc (.int .i64 x.f2), .sc (.int .i64 x.f3)])], 2⟩) (reachF ns ls x.f2).length ⟨0, _, by omega, by omega, rfl, by rw [List.take_zero]; simp only [List.any_nil, Bool.or_false]; rfl⟩ ?_
  rintro m σ ⟨i, b, hi, rfl, hb, rfl⟩
  refine awp_seq_k fun K9 hK9 => ?_
  refine reg Γ_ok [5, 6, 7, 30, 31, 32, 33] [] _ rfl fun K hK => ?_
  simp only [go_sem, Int.reduceToNat, ↓reduceIte, Nat.reduceEqDiff, Nat.reduceLT, Nat.reduceAdd, Nat.reduceMul, Nat.reduceLeDiff, reduceCtorEq]
  refine hK _ ?_
  refine hK9 _ ?_
  refine awp_seq_k fun K10 hK10 => ?_
  refine awp_dec rfl (fun e => ?_) (fun e => ?_)
  · obtain ⟨y, hy⟩ : ∃ y, (reachF ns ls x.f2)[i]? = some y := ⟨_, List.getElem?_eq_getElem (by omega)⟩
    refine awp_skip ?_
    refine hK10 _ ?_
    refine awp_seq_k fun K11 hK11 => ?_
    refine awp_block ?_
    refine awp_seq_k fun K12 hK12 => ?_
    refine reg Γ_ok [5, 6, 7, 9, 30, 31, 32] [(0, .row (encI y))] _ rfl fun K hK => ?_
    simp only [go_sem, Int.reduceToNat, ↓reduceIte, Nat.reduceEqDiff, Nat.reduceLT, Nat.reduceAdd, Nat.reduceMul, Nat.reduceLeDiff, reduceCtorEq]
    refine ⟨⟨by omega, at_row hy⟩, hK _ ?_⟩
    refine hK12 _ ?_
    cases b
    · refine reg Γ_ok [5, 6, 7, 30, 31, 32] [] [some 36, some 37, some 38, some 39, some 40, some 41, some 42, some 7] rfl fun K hK => ?_
      simp only [go_sem, Int.reduceToNat, ↓reduceIte, Nat.reduceEqDiff, Nat.reduceLT, Nat.reduceAdd, Nat.reduceMul, Nat.reduceLeDiff, reduceCtorEq]
      refine hK _ ?_
      refine hK11 _ ?_
      have hb2 : decide (y = x.f0) = (decide (x.f0 = x.f2) || ((reachF ns ls x.f2).take (i + 1)).any fun y => decide (y = x.f0)) := by rw [any_take_at _ hy, ← Bool.or_assoc, ← hb]; rfl
      refine reg Γ_ok [5, 6, 7, 30, 31, 32] [(0, .i ((i + 1 : Nat) : Int))] _ rfl fun K hK => ?_
      simp only [go_sem, Int.reduceToNat, ↓reduceIte, Nat.reduceEqDiff, Nat.reduceLT, Nat.reduceAdd, Nat.reduceMul, Nat.reduceLeDiff, reduceCtorEq]
      refine ⟨wrap_succ (by omega), hK _ ?_⟩
      exact ⟨_, by omega, i + 1, _, by omega, rfl, hb2, rfl⟩
    · refine reg Γ_ok [5, 6, 7, 30, 31, 32] [] [some 36, some 37, some 38, some 39, some 40, some 41, some 42, some 7] rfl fun K hK => ?_
      simp only [go_sem, Int.reduceToNat, ↓reduceIte, Nat.reduceEqDiff, Nat.reduceLT, Nat.reduceAdd, Nat.reduceMul, Nat.reduceLeDiff, reduceCtorEq]
      refine hK _ ?_
      refine hK11 _ ?_
      have hb2 : true = (decide (x.f0 = x.f2) || ((reachF ns ls x.f2).take (i + 1)).any fun y => decide (y = x.f0)) := by rw [any_take_at _ hy, ← Bool.or_assoc, ← hb]; rfl
      refine reg Γ_ok [5, 6, 7, 30, 31, 32] [(0, .i ((i + 1 : Nat) : Int))] _ rfl fun K hK => ?_
      simp only [go_sem, Int.reduceToNat, ↓reduceIte, Nat.reduceEqDiff, Nat.reduceLT, Nat.reduceAdd, Nat.reduceMul, Nat.reduceLeDiff, reduceCtorEq]
      refine ⟨wrap_succ (by omega), hK _ ?_⟩
      exact ⟨_, by omega, i + 1, _, by omega, rfl, hb2, rfl⟩
  · have hi2 : i = (reachF ns ls x.f2).length := by omega
    rw [hi2, List.take_length] at hb
    refine awp_exit ?_
    refine ex_th ?_
    refine ex_th ?_
    refine ex_in ?_
    refine hK7 _ ?_
    refine awp_seq_k fun K13 hK13 => ?_
    refine regc Γ_ok [0, 1, 2] [.bx [.ls 4 (ns.map encN), .ls 4 (ls.map encL)], .bx [.sc (.int .i64 x.f0), .sc (.int .i64 x.f1), .sc (.int .i64 x.f2), .sc (.int .i64 x.f3)], .bx [.ls 4 ((connF ns ls x).1.map encN), .ls 4 ((connF ns ls x).2.1.map encL)]] [(5, .pt 0 0), (6, .pt 1 0), (7, .sc (.bool b)), (10, .pt 2 0), (11, .sc (.int .i64 (connF ns ls x).2.2))] [(2, .call [gV ns ls, agL x] [] [] (.tp [gV (connF ns ls x).1 (connF ns ls x).2.1, .sc (.int .i64 (connF ns ls x).2.2)]) [])] (by kernel_rfl) _ rfl fun K hK => ?_
    simp only [go_sem, Int.reduceToNat, ↓reduceIte, Nat.reduceEqDiff, Nat.reduceLT, Nat.reduceAdd, Nat.reduceMul, Nat.reduceLeDiff, reduceCtorEq]
    refine ⟨cs0 (t_connect ns ls x hw hx0.1 hx0.2) rfl rfl, (by repeat' (first | rfl | constructor)), hK _ ?_⟩
    refine hK13 _ ?_
    refine awp_seq_k fun K14 hK14 => ?_
    refine awp_seq_k fun K15 hK15 => ?_
    refine reg Γ_ok [6, 7, 10, 11, 51] [] _ rfl fun K hK => ?_
    simp only [go_sem, Int.reduceToNat, ↓reduceIte, Nat.reduceEqDiff, Nat.reduceLT, Nat.reduceAdd, Nat.reduceMul, Nat.reduceLeDiff, reduceCtorEq]
    refine hK _ ?_
    refine hK15 _ ?_
    refine awp_dec rfl (fun e => ?_) (fun e => ?_)
    · have e12 := e
      refine awp_seq_k fun K16 hK16 => ?_
      cases b
      · refine reg Γ_ok [4] [] [some 52, some 53, some 54, some 55, some 56, some 57, some 58, some 4] rfl fun K hK => ?_
        simp only [go_sem, Int.reduceToNat, ↓reduceIte, Nat.reduceEqDiff, Nat.reduceLT, Nat.reduceAdd, Nat.reduceMul, Nat.reduceLeDiff, reduceCtorEq]
        refine hK _ ?_
        refine hK16 _ ?_
        refine awp_ret ?_
        exact fin_b (by unfold cycB; rw [if_pos e12, ← hb]; rfl) (.inr rfl) rfl
      · refine reg Γ_ok [4] [] [some 52, some 53, some 54, some 55, some 56, some 57, some 58, some 4] rfl fun K hK => ?_
        simp only [go_sem, Int.reduceToNat, ↓reduceIte, Nat.reduceEqDiff, Nat.reduceLT, Nat.reduceAdd, Nat.reduceMul, Nat.reduceLeDiff, reduceCtorEq]
        refine hK _ ?_
        refine hK16 _ ?_
        refine awp_ret ?_
        exact fin_b (by unfold cycB; rw [if_pos e12, ← hb]; simp) (.inr rfl) rfl
    · have e12 := e
      refine awp_skip ?_
      refine hK14 _ ?_
      refine awp_seq_k fun K17 hK17 => ?_
      refine awp_seq_k fun K18 hK18 => ?_
      refine reg Γ_ok [6, 7, 10, 60] [] _ rfl fun K hK => ?_
      simp only [go_sem, Int.reduceToNat, ↓reduceIte, Nat.reduceEqDiff, Nat.reduceLT, Nat.reduceAdd, Nat.reduceMul, Nat.reduceLeDiff, reduceCtorEq]
      refine hK _ ?_
      refine hK18 _ ?_
      refine awp_dec rfl (fun e => ?_) (fun e => ?_)
      · have e14 := e
        refine awp_seq_k fun K19 hK19 => ?_
        refine reg Γ_ok [4] [] _ rfl fun K hK => ?_
        simp only [go_sem, Int.reduceToNat, ↓reduceIte, Nat.reduceEqDiff, Nat.reduceLT, Nat.reduceAdd, Nat.reduceMul, Nat.reduceLeDiff, reduceCtorEq]
        refine hK _ ?_
        refine hK19 _ ?_
        refine awp_ret ?_
        exact fin_b (by unfold cycB; rw [if_neg e12, if_pos e14]; simp) (.inr rfl) rfl
      · have e14 := e
        refine awp_skip ?_
        refine hK17 _ ?_
        refine awp_seq_k fun K20 hK20 => ?_
        refine reg Γ_ok [6, 7, 10, 12] [] _ rfl fun K hK => ?_
        simp only [go_sem, Int.reduceToNat, ↓reduceIte, Nat.reduceEqDiff, Nat.reduceLT, Nat.reduceAdd, Nat.reduceMul, Nat.reduceLeDiff, reduceCtorEq]
        refine hK _ ?_
        refine hK20 _ ?_
        refine awp_seq_k fun K21 hK21 => ?_
        refine awp_seq_k fun K22 hK22 => ?_
        refine reg Γ_ok [6, 7, 10, 12, 68, 69, 70] [(3, .call [gV (connF ns ls x).1 (connF ns ls x).2.1, .sc (.int .i64 x.f0)] [] [] (.ls 1 ((reachF (connF ns ls x).1 (connF ns ls x).2.1 x.f0).map encI)) [])] _ rfl fun K hK => ?_
        simp only [go_sem, Int.reduceToNat, ↓reduceIte, Nat.reduceEqDiff, Nat.reduceLT, Nat.reduceAdd, Nat.reduceMul, Nat.reduceLeDiff, reduceCtorEq]
        refine ⟨cs0 (t_reach (connF ns ls x).1 (connF ns ls x).2.1 x.f0 hw2 hx0.1) rfl rfl, hK _ ?_⟩
        refine hK22 _ ?_
        refine awp_block ?_
        refine awp_loop (fun m σ => ∃ (i : Nat) (b2 : Bool), i ≤ (reachF (connF ns ls x).1 (connF ns ls x).2.1 x.f0).length ∧ m = (reachF (connF ns ls x).1 (connF ns ls x).2.1 x.f0).length - i ∧ b2 = (((reachF (connF ns ls x).1 (connF ns ls x).2.1 x.f0).take i).any fun y => decide (y = x.f2)) ∧ σ = ⟨[(6, .pt 1 0), (7, .sc (.bool b)), (10, .pt 2 0), (12, .sc (.bool b2)), (68, .ls 1 ((reachF (connF ns ls x).1 (connF ns ls x).2.1 x.f0).map encI)), (69, .sc (.int .i64 (reachF (connF ns ls x).1 (connF ns ls x).2.1 x.f0).length)), (70, .sc (.int .i64 (i : Nat)))], [(0, .bx [.ls 4 (ns.map encN), .ls 4 (ls.map encL)]), (1, .bx [.sc (.int .i64 x.f0), .sc (.int .i64 x.f1), .sc (.int .i64 x.f2), .sc (.int .i64 x.f3)]), (2, .bx [.ls 4 ((connF ns ls x).1.map encN), .ls 4 ((connF ns ls x).2.1.map encL)])], 3⟩) (reachF (connF ns ls x).1 (connF ns ls x).2.1 x.f0).length ⟨0, false, by omega, by omega, rfl, rfl⟩ ?_
        rintro m σ ⟨i, b2, hi, rfl, hb3, rfl⟩
        refine awp_seq_k fun K23 hK23 => ?_
        refine reg Γ_ok [6, 7, 10, 12, 68, 69, 70, 71] [] _ rfl fun K hK => ?_
        simp only [go_sem, Int.reduceToNat, ↓reduceIte, Nat.reduceEqDiff, Nat.reduceLT, Nat.reduceAdd, Nat.reduceMul, Nat.reduceLeDiff, reduceCtorEq]
        refine hK _ ?_
        refine hK23 _ ?_
        refine awp_seq_k fun K24 hK24 => ?_
        refine awp_dec rfl (fun e => ?_) (fun e => ?_)
        · obtain ⟨y, hy⟩ : ∃ y, (reachF (connF ns ls x).1 (connF ns ls x).2.1 x.f0)[i]? = some y := ⟨_, List.getElem?_eq_getElem (by omega)⟩
          refine awp_skip ?_
          refine hK24 _ ?_
          refine awp_seq_k fun K25 hK25 => ?_
          refine awp_block ?_
          refine awp_seq_k fun K26 hK26 => ?_
          refine reg Γ_ok [6, 7, 10, 12, 14, 68, 69, 70] [(0, .row (encI y))] _ rfl fun K hK => ?_
          simp only [go_sem, Int.reduceToNat, ↓reduceIte, Nat.reduceEqDiff, Nat.reduceLT, Nat.reduceAdd, Nat.reduceMul, Nat.reduceLeDiff, reduceCtorEq]
          refine ⟨⟨by omega, at_row hy⟩, hK _ ?_⟩
          refine hK26 _ ?_
          cases b2
          · refine reg Γ_ok [6, 7, 10, 12, 68, 69, 70] [] [some 74, some 75, some 76, some 77, some 78, some 79, some 80, some 12] rfl fun K hK => ?_
            simp only [go_sem, Int.reduceToNat, ↓reduceIte, Nat.reduceEqDiff, Nat.reduceLT, Nat.reduceAdd, Nat.reduceMul, Nat.reduceLeDiff, reduceCtorEq]
            refine hK _ ?_
            refine hK25 _ ?_
            have hb2 : decide (y = x.f2) = (((reachF (connF ns ls x).1 (connF ns ls x).2.1 x.f0).take (i + 1)).any fun y => decide (y = x.f2)) := by rw [any_take_at _ hy, ← hb3]; rfl
            refine reg Γ_ok [6, 7, 10, 12, 68, 69, 70] [(0, .i ((i + 1 : Nat) : Int))] _ rfl fun K hK => ?_
            simp only [go_sem, Int.reduceToNat, ↓reduceIte, Nat.reduceEqDiff, Nat.reduceLT, Nat.reduceAdd, Nat.reduceMul, Nat.reduceLeDiff, reduceCtorEq]
            refine ⟨wrap_succ (by omega), hK _ ?_⟩
            exact ⟨_, by omega, i + 1, _, by omega, rfl, hb2, rfl⟩
          · refine reg Γ_ok [6, 7, 10, 12, 68, 69, 70] [] [some 74, some 75, some 76, some 77, some 78, some 79, some 80, some 12] rfl fun K hK => ?_
            simp only [go_sem, Int.reduceToNat, ↓reduceIte, Nat.reduceEqDiff, Nat.reduceLT, Nat.reduceAdd, Nat.reduceMul, Nat.reduceLeDiff, reduceCtorEq]
            refine hK _ ?_
            refine hK25 _ ?_
            have hb2 : true = (((reachF (connF ns ls x).1 (connF ns ls x).2.1 x.f0).take (i + 1)).any fun y => decide (y = x.f2)) := by rw [any_take_at _ hy, ← hb3]; rfl
            refine reg Γ_ok [6, 7, 10, 12, 68, 69, 70] [(0, .i ((i + 1 : Nat) : Int))] _ rfl fun K hK => ?_
            simp only [go_sem, Int.reduceToNat, ↓reduceIte, Nat.reduceEqDiff, Nat.reduceLT, Nat.reduceAdd, Nat.reduceMul, Nat.reduceLeDiff, reduceCtorEq]
            refine ⟨wrap_succ (by omega), hK _ ?_⟩
            exact ⟨_, by omega, i + 1, _, by omega, rfl, hb2, rfl⟩
        · have hi3 : i = (reachF (connF ns ls x).1 (connF ns ls x).2.1 x.f0).length := by omega
          rw [hi3, List.take_length] at hb3
          refine awp_exit ?_
          refine ex_th ?_
          refine ex_th ?_
          refine ex_in ?_
          refine hK21 _ ?_
          refine awp_seq_k fun K27 hK27 => ?_
          rcases b with _ | _
          rcases b2 with _ | _
          · refine reg Γ_ok [4] [] [some 82, some 83, some 84, some 85, some 86, some 87, some 88, some 89, some 90, some 4] rfl fun K hK => ?_
            simp only [go_sem, Int.reduceToNat, ↓reduceIte, Nat.reduceEqDiff, Nat.reduceLT, Nat.reduceAdd, Nat.reduceMul, Nat.reduceLeDiff, reduceCtorEq]
            refine hK _ ?_
            refine hK27 _ ?_
            refine awp_ret ?_
            exact fin_b (by unfold cycB; rw [if_neg e12, if_neg e14, ← hb, ← hb3]; rfl) (.inr rfl) rfl
          · refine reg Γ_ok [4] [(7, .call [gV (connF ns ls x).1 (connF ns ls x).2.1] [] [] (.sc (.bool (validF (connF ns ls x).1 (connF ns ls x).2.1))) [])] [some 82, some 83, some 84, some 85, some 86, some 87, some 88, some 89, some 90, some 4] rfl fun K hK => ?_
            simp only [go_sem, Int.reduceToNat, ↓reduceIte, Nat.reduceEqDiff, Nat.reduceLT, Nat.reduceAdd, Nat.reduceMul, Nat.reduceLeDiff, reduceCtorEq]
            refine ⟨cs0 (t_valid (connF ns ls x).1 (connF ns ls x).2.1 hw2) rfl rfl, hK _ ?_⟩
            refine hK27 _ ?_
            refine awp_ret ?_
            exact fin_b (by unfold cycB; rw [if_neg e12, if_neg e14, ← hb, ← hb3]; rfl) (.inr rfl) rfl
          · refine reg Γ_ok [4] [] [some 82, some 83, some 84, some 85, some 86, some 87, some 88, some 89, some 90, some 4] rfl fun K hK => ?_
            simp only [go_sem, Int.reduceToNat, ↓reduceIte, Nat.reduceEqDiff, Nat.reduceLT, Nat.reduceAdd, Nat.reduceMul, Nat.reduceLeDiff, reduceCtorEq]
            refine hK _ ?_
            refine hK27 _ ?_
            refine awp_ret ?_
            exact fin_b (by unfold cycB; rw [if_neg e12, if_neg e14, ← hb]; rfl) (.inr rfl) rfl
end Go.Proofs.YtcbpghpfdjfddaaE
-- Declarations of the text that this claim uses (slim.py, a program of this session).
namespace Go.Proofs.YtcbpghpfdjfddaaE
open Go Go.RowKit Go.Proofs.YtcbpghpfdjfddaaG Go.Proofs.YtcbpghpfdjfddaaW.PrintWords Go.Proofs.YtcbpghpfdjfddaaW.PrintLast Go.Proofs.YtcbpghpfdjfddaaW.PrintMore
set_option linter.unusedVariables false
set_option linter.unusedSimpArgs false
theorem vg_ins {ns : List Nd} {ls : List Lk} {x : Lk} (hv : VG ns ls) (he : endsB ns x = true) (hf : fndB ls x = false) (h256 : ¬ ls.length = 256) (hc : (ls.any fun k => clashB ns k x) = false) (ho : ¬ (ordF ns (insF ls x)).length < ns.length) : VG ns (insF ls x) where
  n64 := hv.n64
  l256 := by have := hv.l256; rw [insF_length]; omega
  nok := hv.nok
  pw := insF_pw hv.pw hf hc
  ends := fun l hl => by
    rcases (mem_insF ls x l).1 hl with hl | rfl
    · exact hv.ends l hl
    · exact he
  full := by have := ord_le (insF ls x) hv.nok; omega
theorem reach_mem {ns : List Nd} {ls : List Lk} (hv : VG ns ls) (id y : Int) : y ∈ reachF ns ls id ↔ y ∈ rch id ls (ordF ns ls) [] := by
  unfold reachF
  rw [if_pos ((valid_iff ns ls).2 hv), srt_mem]
theorem any_eq (l : List Int) (y : Int) : (l.any fun z => decide (z = y)) = true ↔ y ∈ l := by
  rw [List.any_eq_true]
  constructor
  · rintro ⟨z, hz, e⟩
    rw [← of_decide_eq_true e]; exact hz
  · exact fun h => ⟨y, h, decide_eq_true rfl⟩
theorem cyc_true (ns : List Nd) (ls : List Lk) (x : Lk) : cycB ns ls x = true := by
  unfold cycB
  rcases conn_cases ns ls x with ⟨e1, e2, e3⟩ | ⟨hv, he, hf, h256, hc, ho, e⟩
  · by_cases h12 : (connF ns ls x).2.2 = 12
    · have hb : (decide (x.f0 = x.f2) || (reachF ns ls x.f2).any fun y => decide (y = x.f0)) = true := by
        unfold connF at h12
        split at h12
        case isFalse => cases h12
        rename_i hv
        split at h12
        case isFalse => cases h12
        rename_i he
        split at h12
        case isTrue => cases h12
        split at h12
        case isTrue => cases h12
        split at h12
        case isTrue => cases h12
        split at h12
        case isFalse => cases h12
        rename_i ho
        have hvg := (valid_iff ns ls).1 hv
        rcases cycle_back hvg he ho with h | h
        · rw [decide_eq_true h, Bool.true_or]
        · rw [(any_eq _ _).2 ((reach_mem hvg _ _).2 h), Bool.or_true]
      simp only [hb, h12, e1]
      rfl
    · rw [if_neg h12, if_pos e3, e1]
      rfl
  · have hvg := (valid_iff ns ls).1 hv
    have hvg2 := vg_ins hvg he hf h256 hc ho
    have hnb := no_back hvg.nok hvg2.full hvg2.ends (ordF ns ls)
    have hb : (decide (x.f0 = x.f2) || (reachF ns ls x.f2).any fun y => decide (y = x.f0)) = false := by
      rw [Bool.or_eq_false_iff]
      refine ⟨decide_eq_false fun h => hnb (.inl h), ?_⟩
      cases h : (reachF ns ls x.f2).any fun y => decide (y = x.f0) with
      | false => rfl
      | true => exact absurd (.inr ((reach_mem hvg _ _).1 ((any_eq _ _).1 h))) hnb
    have hr : ((reachF ns (insF ls x) x.f0).any fun y => decide (y = x.f2)) = true := by
      rw [any_eq, reach_mem hvg2]
      have hri := ord_ri (ls := insF ls x) hvg.nok
      have hx : x ∈ insF ls x := (mem_insF ls x x).2 (.inr rfl)
      obtain ⟨n, hn, en⟩ := (ends_ids hvg.nok he).1
      rcases rch_closed (id := x.f0) hri.topo hri.nodup hx (by rw [← en]; exact ord_all hvg.nok hvg2.full n hn) (.inl rfl) with h | h
      · exact absurd (.inl h.symm) hnb
      · exact h
    rw [e]
    simp only [hb, hr, (valid_iff ns (insF ls x)).2 hvg2]
    rfl
theorem flatU : Flat (Kd.int .u8) (fun n => [.int .u8 n]) encU 1 := ⟨rfl, by omega, fun w x => rfl, fun _ _ _ _ _ h => h, fun _ => rfl, fun _ => rfl, fun x u hu => by simp at hu; subst hu; rfl⟩
theorem u8_of {l : List Int} (h : ∀ y ∈ l, (Lit.int .u8 y).wf = true) : U8 l := fun y hy => by
  have := h y hy
  simp only [Lit.wf, Bool.and_eq_true, decide_eq_true_eq] at this
  have h1 : IntKind.u8.min = 0 := by decide
  have h2 : IntKind.u8.max = 255 := by decide
  omega
theorem cycles.calls (A0 : Option Addr) (c0 : Nat) (l : List Int) (A1 : Option Addr) (c1 : Nat) (l2 : List Int) (w : World) (r0 : Kd.C (Kd.int .u8) w A0 l.length l) (q0 : l.length ≤ c0) (r1 : Kd.C (Kd.int .u8) w A1 l2.length l2) (q1 : l2.length ≤ c1)
    (g0 : l.length ≤ maxLen ∧ ∀ y ∈ l, (Lit.int .u8 y).wf = true) (g1 : l2.length ≤ maxLen ∧ ∀ y ∈ l2, (Lit.int .u8 y).wf = true) :
    Calls Try.prog 5 #[.slice A0 l.length c0, .slice A1 l2.length c1] w fun e w' => e = .returned (.bool true) ∧ Below w.heap.size w w' := by
  have h := t_cycles l l2 (u8_of g0.2) (u8_of g1.2)
  rw [cyc_true] at h
  refine h.run rfl fun i y hi => ?_
  match i, hi with
  | 0, hi => injection hi with hi; subst hi; exact vr_of flatU (fun _ _ _ h => h) _ r0 q0
  | 1, hi => injection hi with hi; subst hi; exact vr_of flatU (fun _ _ _ h => h) _ r1 q1
  | i + 2, hi => simp at hi
end Go.Proofs.YtcbpghpfdjfddaaE
-- Declarations of the text that this claim uses (slim.py, a program of this session).
namespace Go.Proofs.Ytcbpghpfdjfddaa.Op
open Go Go.RowKit Go.ChangeShapes Go.WideShapes Go.Deep Go.Proofs.YtcbpghpfdjfddaaW.PrintWords
def Opn {α : Type} (P : Program) (d : Kd α) (t : TypeId) (Good : α → Prop) : Prop :=
  ∀ (H : Type) (enc : TypeId × Value → H) (w : World) (base : Nat) (spare : Nat → Bool) (held : Bool) (fuel : Nat) (cs : List Value) (x : DataW H × List MemPlace), DataW.trod enc P w base spare held fuel t cs = some x → ∃ a, d.K w a cs ∧ Good a
variable {P : Program}
theorem opn_int {t : TypeId} {k : IntKind} (ht : P.underlying t = some (.int k)) : Opn P (Kd.int k) t (fun n => (Lit.int k n).wf = true) := by
  intro H enc w base spare held fuel cs x h
  obtain ⟨n, rfl, _, hw⟩ := DataW.trod_int ht h
  exact ⟨n, rfl, hw⟩
theorem opn_slice {α : Type} [Inhabited α] {d : Kd α} {t e : TypeId} {Good : α → Prop} (ht : P.underlying t = some (.slice e)) (hsz : P.cellsOf e = d.sz) (hd : Opn P d e Good) :
    Opn P (Kd.slice e d) t (fun xs => xs.length ≤ maxLen ∧ ∀ x ∈ xs, Good x) := by
  intro H enc w base spare held fuel cs x h
  rcases open_slice ht h with ⟨rfl, _⟩ | ⟨a, len, cap, m, n, D, Pl, rfl, hb, hl, hm, hmm, _, hi⟩
  · exact ⟨[], ⟨none, 0, rfl, Nat.le_refl _, rfl, by simp, fun hn => by simp at hn⟩, by simp, fun _ hx => by simp at hx⟩
  · have hlm : len ≤ m := by rw [hmm]; split <;> omega
    have key : ∀ i, ∃ p : α, i < len → ∃ c : List Value, c.length = d.sz ∧ d.K w p c ∧ Good p ∧ ∀ j u, c[j]? = some u → w.cell? (a.add (i * d.sz + j)) = some u := by
      intro i
      by_cases hil : i < len
      · obtain ⟨cs', hc, htr⟩ := hi i (by omega)
        obtain ⟨p, hK, hg⟩ := hd H enc w base spare held n cs' _ htr
        obtain ⟨_, hcl, hat⟩ := World.cells?_some hc
        refine ⟨p, fun _ => ⟨cs', hcl.trans hsz, hK, hg, fun j u hu => ?_⟩⟩
        have hj : j < P.cellsOf e := by rw [← hcl]; exact (List.getElem?_eq_some_iff.1 hu).1
        have := hat j hj
        rw [hsz] at this
        rw [← Go.Deep.add_add, this, hu]
      · exact ⟨default, fun h => absurd h hil⟩
    obtain ⟨f, hf⟩ := Classical.axiomOfChoice key
    have hget : ∀ j p, ((List.range len).map f)[j]? = some p → j < len ∧ p = f j := fun j p hp => by
      rw [List.getElem?_map] at hp
      rcases Nat.lt_or_ge j len with hj | hj
      · rw [List.getElem?_range hj] at hp
        exact ⟨hj, by simpa using hp.symm⟩
      · rw [List.getElem?_eq_none (by simpa using hj)] at hp
        cases hp
    refine ⟨(List.range len).map f, ⟨some a, cap, by simp, by simpa using hl, by simp, by unfold maxLen at hm; simp; omega, fun _ => ⟨a, rfl, fun j p hp => ?_⟩⟩, by simp; omega, fun y hy => ?_⟩
    · obtain ⟨hj, rfl⟩ := hget j p hp
      obtain ⟨c, h1, h2, h3, h4⟩ := hf j hj
      exact ⟨c, h1, h2, h4⟩
    · obtain ⟨j, hj⟩ := List.getElem?_of_mem hy
      obtain ⟨hjl, rfl⟩ := hget j y hj
      obtain ⟨c, h1, h2, h3, h4⟩ := hf j hjl
      exact h3
end Go.Proofs.Ytcbpghpfdjfddaa.Op
-- Declarations of the text that this claim uses (slim.py, a program of this session).
namespace Go.Proofs.Ytcbpghpfdjfddaa.Q
open Go Go.RowKit Go.ChangeShapes Go.WideShapes Go.Proofs.Ytcbpghpfdjfddaa.Op Go.Proofs.Ytcbpghpfdjfddaa.Q Go.Proofs.YtcbpghpfdjfddaaW.PrintWords Go.Proofs.YtcbpghpfdjfddaaW.PrintLast Go.Proofs.YtcbpghpfdjfddaaW.PrintMore
set_option linter.unusedVariables false
set_option linter.unusedSimpArgs false
end Go.Proofs.Ytcbpghpfdjfddaa.Q
