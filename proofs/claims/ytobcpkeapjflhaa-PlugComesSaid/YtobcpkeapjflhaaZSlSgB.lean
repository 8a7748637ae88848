-- Declarations of the text that this claim uses (slim.py, a program of this session).
import Derived.Test.YtobcpkeapjflhaaZSl1
import Derived.Test.YtobcpkeapjflhaaZQx0
import Derived.WalkKit
import Derived.LoopTactic
import Derived.Deep.LoopGhost
import Derived.Lib.Hide
import Derived.ChangeAlike
import Derived.Shelf.Abstract
namespace Go.Proofs.Ytobcpkeapjflhaa.Q
open Go Go.RowKit Go.Proofs.YtobcpkeapjflhaaW.PrintWords Go.Proofs.YtobcpkeapjflhaaW.PrintLast Go.Proofs.YtobcpkeapjflhaaW.PrintMore Go.Proofs.YtobcpkeapjflhaaSl
set_option linter.unusedVariables false
set_option linter.unusedSimpArgs false
def bsISg (cf : S68 → Int) (l : List S68) : Nat → Nat → Nat → Nat
  | 0, i, _ => i
  | k + 1, i, j => if i < j then (if cf (l.getD ((i + j) / 2) z68) < 0 then bsISg cf l k ((i + j) / 2 + 1) j else bsISg cf l k i ((i + j) / 2)) else i
set_option maxHeartbeats 4000000 in
set_option maxRecDepth 100000 in
theorem bsSg_calls (g : Nat) (lb : Array Value) (tv : Value) (cf : S68 → Int) (A : Option Addr) (c : Nat) (l : List S68) (w : World) (hr : Kd.C k68 w A l.length l) (hc : l.length ≤ c)
    (eg : ∀ (args : Array Value) (w : World), (callFunc g args).run Try.prog w = .ok (.enter g args) w)
    (hcl : ∀ (x : S68) (W : World), Below w.heap.size w W → Calls Try.prog g (#[.agg #[.int .u64 x.f0, .int .i64 x.f1], tv] ++ lb) W fun e w' => e = .returned (.int .i64 (cf x)) ∧ Below W.heap.size W w') :
    Calls Try.prog 52 #[.slice A l.length c, tv, .func (.func g) #[] lb] w fun e w' => e = .returned (.tuple #[.int .i64 (bsISg cf l l.length 0 l.length), .bool (decide (bsISg cf l l.length 0 l.length < l.length) && decide (cf (l.getD (bsISg cf l l.length 0 l.length) z68) = 0))]) ∧ Below w.heap.size w w' := by
  have hn : l.length ≤ 9223372036854775807 := hr.2.1
  have HR := Aside0.mk hr
  have HCL := Aside0.mk hcl
  clear hr hcl
  obtain ⟨R, hR⟩ : ∃ R, bsISg cf l l.length 0 l.length = R := ⟨_, rfl⟩
  rw [hR]
  go_enter Try.func52, Try.ntmps52
  go_wp2
  go_loopw [9, 10] (fun vi vj wr => ∃ i j k : Nat, i ≤ j ∧ j ≤ l.length ∧ vi = .int .i64 i ∧ vj = .int .i64 j ∧ Aside0 (j - i ≤ k ∧ bsISg cf l k i j = R) ∧ Aside0 (Below w.heap.size w wr)) (fun vi vj _ => (intOf vj - intOf vi).toNat)
  case atStart => exact ⟨0, l.length, l.length, by omega, by omega, rfl, rfl, ⟨by omega, hR⟩, ⟨Below.refl _ _⟩⟩
  case round =>
    obtain ⟨i, j, k, hij, hjn, rfl, rfl, HA, HB⟩ := hrel
    clear hR
    by_cases hlt : i < j
    · obtain ⟨m, hm⟩ : ∃ m, m = (i + j) / 2 := ⟨_, rfl⟩
      have him : i ≤ m := by omega
      have hmj : m < j := by omega
      have hml : m < l.length := by omega
      have hmw : wrap64 (IntKind.u64.wrap (wrap64 ((i : Int) + (j : Int))) / 2) = (m : Int) := by
        have h1 : IntKind.u64.wrap (wrap64 ((i : Int) + (j : Int))) = (i : Int) + (j : Int) := by
          simp only [IntKind.wrap, IntKind.bits, IntKind.signed]
          unfold wrap64
          simp
          omega
        rw [h1]
        unfold wrap64
        omega
      obtain ⟨ad, rfl, hx0, hx1⟩ := at_T68 HR.out (m : Int) (by omega) (by omega)
      replace hx0 := (HB.out.cell (World.block_lt_of_cell? w _ hx0)).trans hx0; replace hx1 := (HB.out.cell (World.block_lt_of_cell? w _ hx1)).trans hx1
      have hx : rd_T68 l (m : Int) = l.getD m z68 := rfl
      obtain ⟨x, hxd⟩ : ∃ x, x = rd_T68 l (m : Int) := ⟨_, rfl⟩
      rw [← hxd] at hx hx0 hx1
      clear hxd
      simp only [Int.toNat_natCast] at hx0 hx1
      have hc1 := HCL.out x wr HB.out
      have hk : ∃ k', k = k' + 1 := ⟨k - 1, by have := HA.out.1; omega⟩
      obtain ⟨k, rfl⟩ := hk
      have HS : Aside0 (bsISg cf l (k + 1) i j = if cf x < 0 then bsISg cf l k (m + 1) j else bsISg cf l k i m) := ⟨by rw [bsISg, if_pos hlt, hx, hm]⟩
      have HM := Aside0.mk hm
      clear hx hm HCL
      have hbx : ∀ w1, Below wr.heap.size wr w1 → Below w.heap.size w w1 := fun w1 hb => HB.out.trans (hb.mono HB.out.size)
      by_cases hneg : cf x < 0
      · go_wp2_with (go_at_fn g; refine hc1.mono ?_; rintro e w1 ⟨rfl, hb1⟩)
        go_roundw
        case measure => simp [intOf]; omega
        case rel => exact ⟨m + 1, j, k, by omega, by omega, by go_num, rfl, ⟨by have := HA.out.1; omega, by have := HA.out.2; rw [HS.out, if_pos hneg] at this; exact this⟩, ⟨hbx _ hb1⟩⟩
      · go_wp2_with (go_at_fn g; refine hc1.mono ?_; rintro e w1 ⟨rfl, hb1⟩)
        go_roundw
        case measure => simp [intOf]; omega
        case rel => exact ⟨i, m, k, by omega, by omega, rfl, rfl, ⟨by have := HA.out.1; omega, by have := HA.out.2; rw [HS.out, if_neg (by omega)] at this; exact this⟩, ⟨hbx _ hb1⟩⟩
    · have hiR : i = R := by
        have := HA.out.2
        cases k with
        | zero => exact this
        | succ k => rw [bsISg, if_neg hlt] at this; exact this
      subst hiR
      clear HA
      by_cases hin : i < l.length
      · obtain ⟨ad, rfl, hx0, hx1⟩ := at_T68 HR.out (i : Int) (by omega) (by omega)
        replace hx0 := (HB.out.cell (World.block_lt_of_cell? w _ hx0)).trans hx0; replace hx1 := (HB.out.cell (World.block_lt_of_cell? w _ hx1)).trans hx1
        have hx : rd_T68 l (i : Int) = l.getD i z68 := rfl
        obtain ⟨x, hxd⟩ : ∃ x, x = rd_T68 l (i : Int) := ⟨_, rfl⟩
        rw [← hxd] at hx hx0 hx1
        have HX := Aside0.mk hx
        clear hxd
        simp only [Int.toNat_natCast] at hx0 hx1
        have hc1 := HCL.out x wr HB.out
        have hbx : ∀ w1, Below wr.heap.size wr w1 → Below w.heap.size w w1 := fun w1 hb => HB.out.trans (hb.mono HB.out.size)
        clear hx HCL
        go_wp2_with (go_at_fn g; refine hc1.mono ?_; rintro e w1 ⟨rfl, hb1⟩)
        go_ret2
        exact ⟨by rw [decide_eq_true hin, ← HX.out]; simp; rw [Bool.eq_iff_iff]; simp, hbx _ hb1⟩
      · go_wp2_with fail
        go_ret2
        exact ⟨by rw [decide_eq_false hin]; rfl, HB.out⟩
end Go.Proofs.Ytobcpkeapjflhaa.Q
