import Derived.Test.YtcbpghpfdjfddaaY3
import Derived.Test.YtcbpghpfdjfddaaY2
import Derived.Test.YtcbpghpfdjfddaaY1
import Derived.WalkKit
import Derived.LoopTactic
import Derived.Deep.LoopGhost
import Derived.Lib.Hide
import Derived.ChangeAlike
import Derived.Shelf.Abstract
import Derived.Shelf.Sort.Plain
import Derived.Shelf.Slices.In.SortNone
import Derived.Test.YtcbpghpfdjfddaaProg
-- Declarations of the text that this claim uses (slim.py, a program of this session).
namespace Go.Proofs.YtcbpghpfdjfddaaG
open Go Go.RowKit Go.Proofs.YtcbpghpfdjfddaaMp Go.Proofs.Ytcbpghpfdjfddaa.Q Go.Proofs.YtcbpghpfdjfddaaW.PrintWords Go.Proofs.YtcbpghpfdjfddaaW.PrintLast Go.Proofs.YtcbpghpfdjfddaaW.PrintMore
set_option linter.unusedVariables false
set_option linter.unusedSimpArgs false
theorem four_ints' (a b c d : Int) : ∀ q ∈ [Value.int .i64 a, Value.int .i64 b, Value.int .i64 c, Value.int .i64 d], q.oneCell' = true := by
  intro q hq
  simp only [List.mem_cons, List.not_mem_nil, or_false] at hq
  rcases hq with rfl | rfl | rfl | rfl <;> rfl
def rn (ns : List Nd) (id : Int) : Nd := (ns.find? fun n => n.f0 == id).getD ⟨0, 0, 0, 0⟩
def rh (ns : List Nd) (id : Int) : Bool := (ns.find? fun n => n.f0 == id).isSome
def tup (o : Option Nd) : Int × Int × Int × Int × Bool := match o with
  | some n => (n.f0, n.f1, n.f2, n.f3, true)
  | none => (0, 0, 0, 0, false)
theorem node_l0 (ns : List Nd) (id : Int) (hn : ns.length ≤ 1000000) : ∀ (k i : Nat), i ≤ ns.length → ns.length - i < k → soundserviceref22_node.l0 k id ns (ns.length : Int) (i : Int) = some (tup ((ns.drop i).find? fun n => n.f0 == id))
  | 0, i, _, h => by omega
  | k + 1, i, hi, h => by
    unfold soundserviceref22_node.l0
    by_cases hil : i < ns.length
    · rw [if_pos (by omega), if_pos (by omega), if_pos (by omega)]
      have hr : rd_T43 ns (i : Int) = ns[i] := by unfold rd_T43; simp [hil]
      rw [hr, List.drop_eq_getElem_cons hil, List.find?_cons]
      by_cases he : ns[i].f0 = id
      · rw [if_pos he, beq_iff_eq.2 he]; rfl
      · rw [if_neg he, beq_eq_false_iff_ne.2 he, show wrap64 ((i : Int) + 1) = ((i + 1 : Nat) : Int) by unfold wrap64; omega]
        exact node_l0 ns id hn k (i + 1) hil (by omega)
    · obtain rfl : i = ns.length := by omega
      rw [if_neg (by omega), List.drop_length]
      rfl
theorem node_f (ns : List Nd) (ls : List Lk) (id : Int) (hn : ns.length ≤ 1000000) : soundserviceref22_node.f (ns.length + 1) ns ls id = some ((rn ns id).f0, (rn ns id).f1, (rn ns id).f2, (rn ns id).f3, rh ns id) := by
  unfold soundserviceref22_node.f
  rw [show (0 : Int) = ((0 : Nat) : Int) from rfl, node_l0 ns id hn _ 0 (Nat.zero_le _) (by omega), List.drop_zero]
  unfold rn rh tup
  cases ns.find? fun n => n.f0 == id <;> rfl
theorem rnode_calls (A : Option Addr) (c : Nat) (ns : List Nd) (A2 : Option Addr) (c2 : Nat) (ls : List Lk) (id : Int) (w : World) (hr : Rd kN w A c ns) (hr2 : Rd kL w A2 c2 ls) (hn : ns.length ≤ 1000000) :
    Calls Try.prog 59 #[.agg #[.slice A ns.length c, .slice A2 ls.length c2], .int .i64 id] w fun e w' => e = .returned (.tuple #[.agg #[.int .i64 (rn ns id).f0, .int .i64 (rn ns id).f1, .int .i64 (rn ns id).f2, .int .i64 (rn ns id).f3], .bool (rh ns id)]) ∧ Below w.heap.size w w' :=
  soundserviceref22_node.calls (ns.length + 1) A c ns A2 c2 ls id _ _ _ _ _ w hr.1 hr.2 hr2.1 hr2.2 (node_f ns ls id hn)
def portsB (ns : List Nd) (x : Lk) : Bool := rh ns x.f0 && (rh ns x.f2 && (decide (x.f1 ≥ 0) && (decide (x.f1 < (rn ns x.f0).f3) && (decide (x.f3 ≥ 0) && decide (x.f3 < (rn ns x.f2).f2)))))
theorem ways6 (p q r s t u : Bool) : p = false ∨ (p = true ∧ q = false) ∨ (p = true ∧ q = true ∧ r = false) ∨ (p = true ∧ q = true ∧ r = true ∧ s = false) ∨ (p = true ∧ q = true ∧ r = true ∧ s = true ∧ t = false) ∨ (p = true ∧ q = true ∧ r = true ∧ s = true ∧ t = true ∧ u = false) ∨ (p = true ∧ q = true ∧ r = true ∧ s = true ∧ t = true ∧ u = true) := by cases p <;> cases q <;> cases r <;> cases s <;> cases t <;> cases u <;> simp
set_option maxHeartbeats 4000000 in
set_option maxRecDepth 100000 in
theorem ports_in (A : Option Addr) (c : Nat) (ns : List Nd) (A2 : Option Addr) (c2 : Nat) (ls : List Lk) (x : Lk) (w : World) (a0 a1 a2 a3 b0 b1 b2 b3 : Int) (p q : Bool) (HA : Hid (∀ W, Below w.heap.size w W → Calls Try.prog 59 #[.agg #[.slice A ns.length c, .slice A2 ls.length c2], .int .i64 x.f0] W fun e w' => e = .returned (.tuple #[.agg #[.int .i64 a0, .int .i64 a1, .int .i64 a2, .int .i64 a3], .bool p]) ∧ Below W.heap.size W w')) (HB2 : Hid (∀ W, Below w.heap.size w W → Calls Try.prog 59 #[.agg #[.slice A ns.length c, .slice A2 ls.length c2], .int .i64 x.f2] W fun e w' => e = .returned (.tuple #[.agg #[.int .i64 b0, .int .i64 b1, .int .i64 b2, .int .i64 b3], .bool q]) ∧ Below W.heap.size W w')) :
    Calls Try.prog 45 #[.agg #[.slice A ns.length c, .slice A2 ls.length c2], .agg #[.int .i64 x.f0, .int .i64 x.f1, .int .i64 x.f2, .int .i64 x.f3]] w fun e w' => e = .returned (.bool (p && (q && (decide (x.f1 ≥ 0) && (decide (x.f1 < a3) && (decide (x.f3 ≥ 0) && decide (x.f3 < b2))))))) ∧ Below w.heap.size w w' := by
  generalize hE : (p && (q && (decide (x.f1 ≥ 0) && (decide (x.f1 < a3) && (decide (x.f3 ≥ 0) && decide (x.f3 < b2)))))) = E
  have HE := Lib.hid hE
  clear hE
  rcases ways6 p q (decide (x.f1 ≥ 0)) (decide (x.f1 < a3)) (decide (x.f3 ≥ 0)) (decide (x.f3 < b2)) with d1 | ⟨d1, d2⟩ | ⟨d1, d2, d3⟩ | ⟨d1, d2, d3, d4⟩ | ⟨d1, d2, d3, d4, d5⟩ | ⟨d1, d2, d3, d4, d5, d6⟩ | ⟨d1, d2, d3, d4, d5, d6⟩
  all_goals
    first | subst d1 | skip
    first | subst d2 | skip
    go_enter Try.func45, Try.ntmps45
    go_wp2_with (first | ((with_reducible refine gate_dst (N := 2) rfl ?_); refine box_event ?hg (N := 2) ?hd (cs := #[.slice A ns.length c, .slice A2 ls.length c2]) (t := 25) ?hr ?_; (case hd => rfl); (case hg => rfl); (case hr => first | (go_simp; done) | (go_simp; rfl)); intro gb hg_ w2 hbox hb; have HB := Lib.hid hb; have HBX := Lib.hid hbox; have HGB := Lib.hid (Nat.le_of_eq hg_.symm); clear hbox hb hg_) | ((with_reducible refine gate_dst (N := 3) rfl ?_); refine box_event ?hg (N := 3) ?hd (cs := #[.int .i64 x.f0, .int .i64 x.f1, .int .i64 x.f2, .int .i64 x.f3]) (t := 45) ?hr ?_; (case hd => rfl); (case hg => rfl); (case hr => first | (go_simp; done) | (go_simp; rfl)); intro gx hg_ w3 hbox hb; have HB_ := Lib.hid (below_step HB.out hb); have HBX_ := Lib.hid (hep HBX.out hb); clear HB HBX; have HB := HB_; have HBX := HBX_; clear HB_ HBX_; have HX := Lib.hid hbox; have cb0 := cel0 HBX.out 0 _ rfl; have cb1 := cel0 HBX.out 1 _ rfl; have lb := hlt HBX.out; have lx := hlt HX.out; have cx0 := cel0 HX.out 0 _ rfl; have cx1 := cel0 HX.out 1 _ rfl; have cx2 := cel0 HX.out 2 _ rfl; have cx3 := cel0 HX.out 3 _ rfl; clear hbox hb hg_) | (go_at_call 59; (with_reducible refine (HA.out _ HB.out).mono ?_); rintro e w_ ⟨rfl, hb⟩; clear cb0 cb1 lb lx cx0 cx1 cx2 cx3; have HB_ := Lib.hid (below_step HB.out hb); have HBX_ := Lib.hid (hep HBX.out hb); have HX_ := Lib.hid (hep HX.out hb); clear HB HBX HX; have HB := HB_; have HBX := HBX_; have HX := HX_; clear HB_ HBX_ HX_; clear hb) | ((with_reducible refine gate_dst (N := 5) rfl ?_); refine box_event ?hg (N := 5) ?hd (cs := #[.int .i64 0, .int .i64 0, .int .i64 0, .int .i64 0]) (t := 43) ?hr ?_; (case hd => rfl); (case hg => rfl); (case hr => first | (go_simp; done) | (go_simp; rfl)); intro ga hg_ w5 hbox hb; have HGA := Lib.hid (show w.heap.size ≤ ga by rw [hg_]; exact HB.out.size); have NA := Lib.hid (show gb ≠ ga ∧ gx ≠ ga from ⟨by rw [hg_]; exact Nat.ne_of_lt (hlt HBX.out), by rw [hg_]; exact Nat.ne_of_lt (hlt HX.out)⟩); have HB_ := Lib.hid (below_step HB.out hb); have HBX_ := Lib.hid (hep HBX.out hb); have HX_ := Lib.hid (hep HX.out hb); clear HB HBX HX; have HB := HB_; have HBX := HBX_; have HX := HX_; clear HB_ HBX_ HX_; have HA_ := Lib.hid hbox; clear hbox hb hg_) | ((with_reducible refine gate_store (t := 43) (p := 5) rfl ?_); refine wpList_put rfl rfl 43 _ _ rfl (off := 0) (cur := #[.int .i64 0, .int .i64 0, .int .i64 0, .int .i64 0]) HA_.out (by rfl) (.agg #[.int .i64 a0, .int .i64 a1, .int .i64 a2, .int .i64 a3]) (by rfl) [.int .i64 a0, .int .i64 a1, .int .i64 a2, .int .i64 a3] rfl (by kernel_rfl) (by simp) (four_ints' _ _ _ _) #[.int .i64 a0, .int .i64 a1, .int .i64 a2, .int .i64 a3] rfl ?_; intro w_ hs_ hg_; have HB_ := Lib.hid (bel_grown HB.out hg_ HGA.out HB.out.size); have HBX_ := Lib.hid (blk_grown HBX.out hg_ (fun h => by injection h with h; exact NA.out.1 h)); have HX_ := Lib.hid (blk_grown HX.out hg_ (fun h => by injection h with h; exact NA.out.2 h)); clear HB HBX HX; have HB := HB_; have HBX := HBX_; have HX := HX_; clear HB_ HBX_ HX_; clear HA_; have HVA := Lib.hid hs_; clear hs_ hg_; have cb0 := cel0 HBX.out 0 _ rfl; have cb1 := cel0 HBX.out 1 _ rfl; have lb := hlt HBX.out; have lx := hlt HX.out; have cx0 := cel0 HX.out 0 _ rfl; have cx1 := cel0 HX.out 1 _ rfl; have cx2 := cel0 HX.out 2 _ rfl; have cx3 := cel0 HX.out 3 _ rfl) | (go_at_call 59; (with_reducible refine (HB2.out _ HB.out).mono ?_); rintro e w_ ⟨rfl, hb⟩; clear cb0 cb1 lb lx cx0 cx1 cx2 cx3; have HB_ := Lib.hid (below_step HB.out hb); have HBX_ := Lib.hid (hep HBX.out hb); have HX_ := Lib.hid (hep HX.out hb); have HVA_ := Lib.hid (hep HVA.out hb); clear HB HBX HX HVA; have HB := HB_; have HBX := HBX_; have HX := HX_; have HVA := HVA_; clear HB_ HBX_ HX_ HVA_; clear hb) | ((with_reducible refine gate_dst (N := 7) rfl ?_); refine box_event ?hg (N := 7) ?hd (cs := #[.int .i64 0, .int .i64 0, .int .i64 0, .int .i64 0]) (t := 43) ?hr ?_; (case hd => rfl); (case hg => rfl); (case hr => first | (go_simp; done) | (go_simp; rfl)); intro gd hg_ w7 hbox hb; have HGD := Lib.hid (show w.heap.size ≤ gd by rw [hg_]; exact HB.out.size); have ND := Lib.hid (show gb ≠ gd ∧ gx ≠ gd ∧ ga ≠ gd from ⟨by rw [hg_]; exact Nat.ne_of_lt (hlt HBX.out), by rw [hg_]; exact Nat.ne_of_lt (hlt HX.out), by rw [hg_]; exact Nat.ne_of_lt (hlt HVA.out)⟩); have HB_ := Lib.hid (below_step HB.out hb); have HBX_ := Lib.hid (hep HBX.out hb); have HX_ := Lib.hid (hep HX.out hb); have HVA_ := Lib.hid (hep HVA.out hb); clear HB HBX HX HVA; have HB := HB_; have HBX := HBX_; have HX := HX_; have HVA := HVA_; clear HB_ HBX_ HX_ HVA_; have HD_ := Lib.hid hbox; clear hbox hb hg_) | ((with_reducible refine gate_store (t := 43) (p := 7) rfl ?_); refine wpList_put rfl rfl 43 _ _ rfl (off := 0) (cur := #[.int .i64 0, .int .i64 0, .int .i64 0, .int .i64 0]) HD_.out (by rfl) (.agg #[.int .i64 b0, .int .i64 b1, .int .i64 b2, .int .i64 b3]) (by rfl) [.int .i64 b0, .int .i64 b1, .int .i64 b2, .int .i64 b3] rfl (by kernel_rfl) (by simp) (four_ints' _ _ _ _) #[.int .i64 b0, .int .i64 b1, .int .i64 b2, .int .i64 b3] rfl ?_; intro w_ hs_ hg_; have HB_ := Lib.hid (bel_grown HB.out hg_ HGD.out HB.out.size); have HBX_ := Lib.hid (blk_grown HBX.out hg_ (fun h => by injection h with h; exact ND.out.1 h)); have HX_ := Lib.hid (blk_grown HX.out hg_ (fun h => by injection h with h; exact ND.out.2.1 h)); have HVA_ := Lib.hid (blk_grown HVA.out hg_ (fun h => by injection h with h; exact ND.out.2.2 h)); clear HB HBX HX HVA; have HB := HB_; have HBX := HBX_; have HX := HX_; have HVA := HVA_; clear HB_ HBX_ HX_ HVA_; clear HD_; have HVB := Lib.hid hs_; clear hs_ hg_; have cb0 := cel0 HBX.out 0 _ rfl; have cb1 := cel0 HBX.out 1 _ rfl; have lb := hlt HBX.out; have lx := hlt HX.out; have cx0 := cel0 HX.out 0 _ rfl; have cx1 := cel0 HX.out 1 _ rfl; have cx2 := cel0 HX.out 2 _ rfl; have cx3 := cel0 HX.out 3 _ rfl; have la := hlt HVA.out; have ld := hlt HVB.out; have ca3 := cel0 HVA.out 3 _ rfl; have cd2 := cel0 HVB.out 2 _ rfl; have ca1 := cel0 HVA.out 1 _ rfl; have cd1 := cel0 HVB.out 1 _ rfl))
    go_ret
    refine ⟨by rw [← HE.out]; first | (simp_all; done) | (simp_all; intros; omega), HB.out⟩
theorem ports_calls (A : Option Addr) (c : Nat) (ns : List Nd) (A2 : Option Addr) (c2 : Nat) (ls : List Lk) (x : Lk) (w : World) (hr : Rd kN w A c ns) (hr2 : Rd kL w A2 c2 ls) (hn : ns.length ≤ 1000000) :
    Calls Try.prog 45 #[.agg #[.slice A ns.length c, .slice A2 ls.length c2], .agg #[.int .i64 x.f0, .int .i64 x.f1, .int .i64 x.f2, .int .i64 x.f3]] w fun e w' => e = .returned (.bool (portsB ns x)) ∧ Below w.heap.size w w' :=
  ports_in A c ns A2 c2 ls x w _ _ _ _ _ _ _ _ _ _ (Lib.hid fun W hb => rnode_calls A c ns A2 c2 ls x.f0 W (hr.below hb) (hr2.below hb) hn) (Lib.hid fun W hb => rnode_calls A c ns A2 c2 ls x.f2 W (hr.below hb) (hr2.below hb) hn)
def crB (ns : List Nd) (k x : Lk) : Bool := ((k.f2 == x.f2) && ((k.f3 == x.f3) && ((rn ns x.f2).f1 != 3))) || ((k.f0 == x.f0) && ((k.f1 == x.f1) && (((rn ns x.f0).f1 != 5) && ((rn ns x.f0).f1 != 1))))
def crE (a1 b1 : Int) (k x : Lk) : Bool := ((k.f2 == x.f2) && ((k.f3 == x.f3) && (b1 != 3))) || ((k.f0 == x.f0) && ((k.f1 == x.f1) && ((a1 != 5) && (a1 != 1))))
set_option maxHeartbeats 4000000 in
set_option maxRecDepth 100000 in
theorem crowd_in (A : Option Addr) (c : Nat) (ns : List Nd) (A2 : Option Addr) (c2 : Nat) (ls : List Lk) (x : Lk) (w : World) (a0 a1 a2 a3 b0 b1 b2 b3 : Int) (p q : Bool) (A3 : Option Addr) (c3 : Nat) (os : List Lk) (HR3 : Hid (Rd kL w A3 c3 os)) (HOL : Hid (os.length ≤ 1000000)) (HA : Hid (∀ W, Below w.heap.size w W → Calls Try.prog 59 #[.agg #[.slice A ns.length c, .slice A2 ls.length c2], .int .i64 x.f0] W fun e w' => e = .returned (.tuple #[.agg #[.int .i64 a0, .int .i64 a1, .int .i64 a2, .int .i64 a3], .bool p]) ∧ Below W.heap.size W w')) (HB2 : Hid (∀ W, Below w.heap.size w W → Calls Try.prog 59 #[.agg #[.slice A ns.length c, .slice A2 ls.length c2], .int .i64 x.f2] W fun e w' => e = .returned (.tuple #[.agg #[.int .i64 b0, .int .i64 b1, .int .i64 b2, .int .i64 b3], .bool q]) ∧ Below W.heap.size W w')) :
    Calls Try.prog 47 #[.agg #[.slice A ns.length c, .slice A2 ls.length c2], .agg #[.int .i64 x.f0, .int .i64 x.f1, .int .i64 x.f2, .int .i64 x.f3], .slice A3 os.length c3] w fun e w' => e = .returned (.bool (os.any fun k => crE a1 b1 k x)) ∧ Below w.heap.size w w' := by
  obtain ⟨R, hR⟩ : ∃ R, (os.any fun k => crE a1 b1 k x) = R := ⟨_, rfl⟩
  rw [hR]
  have HRR := Lib.hid hR
  clear hR
  go_enter Try.func47, Try.ntmps47
  go_wp2_with (first | ((with_reducible refine gate_dst (N := 3) rfl ?_); refine box_event ?hg (N := 3) ?hd (cs := #[.slice A ns.length c, .slice A2 ls.length c2]) (t := 25) ?hr ?_; (case hd => rfl); (case hg => rfl); (case hr => first | (go_simp; done) | (go_simp; rfl)); intro gb hg_ w3 hbox hb; have HB := Lib.hid hb; have HBX := Lib.hid hbox; have HGB := Lib.hid (Nat.le_of_eq hg_.symm); clear hbox hb hg_) | ((with_reducible refine gate_dst (N := 4) rfl ?_); refine box_event ?hg (N := 4) ?hd (cs := #[.int .i64 x.f0, .int .i64 x.f1, .int .i64 x.f2, .int .i64 x.f3]) (t := 45) ?hr ?_; (case hd => rfl); (case hg => rfl); (case hr => first | (go_simp; done) | (go_simp; rfl)); intro gx hg_ w4 hbox hb; have HB_ := Lib.hid (below_step HB.out hb); have HBX_ := Lib.hid (hep HBX.out hb); clear HB HBX; have HB := HB_; have HBX := HBX_; clear HB_ HBX_; have HX := Lib.hid hbox; have cb0 := cel0 HBX.out 0 _ rfl; have cb1 := cel0 HBX.out 1 _ rfl; have lb := hlt HBX.out; have lx := hlt HX.out; have cx0 := cel0 HX.out 0 _ rfl; have cx1 := cel0 HX.out 1 _ rfl; have cx2 := cel0 HX.out 2 _ rfl; have cx3 := cel0 HX.out 3 _ rfl; clear hbox hb hg_) | (go_at_call 59; (with_reducible refine (HA.out _ HB.out).mono ?_); rintro e w_ ⟨rfl, hb⟩; clear cb0 cb1 lb lx cx0 cx1 cx2 cx3; have HB_ := Lib.hid (below_step HB.out hb); have HBX_ := Lib.hid (hep HBX.out hb); have HX_ := Lib.hid (hep HX.out hb); clear HB HBX HX; have HB := HB_; have HBX := HBX_; have HX := HX_; clear HB_ HBX_ HX_; clear hb) | ((with_reducible refine gate_dst (N := 7) rfl ?_); refine box_event ?hg (N := 7) ?hd (cs := #[.int .i64 0, .int .i64 0, .int .i64 0, .int .i64 0]) (t := 43) ?hr ?_; (case hd => rfl); (case hg => rfl); (case hr => first | (go_simp; done) | (go_simp; rfl)); intro ga hg_ w7 hbox hb; have HGA := Lib.hid (show w.heap.size ≤ ga by rw [hg_]; exact HB.out.size); have NA := Lib.hid (show gb ≠ ga ∧ gx ≠ ga from ⟨by rw [hg_]; exact Nat.ne_of_lt (hlt HBX.out), by rw [hg_]; exact Nat.ne_of_lt (hlt HX.out)⟩); have HB_ := Lib.hid (below_step HB.out hb); have HBX_ := Lib.hid (hep HBX.out hb); have HX_ := Lib.hid (hep HX.out hb); clear HB HBX HX; have HB := HB_; have HBX := HBX_; have HX := HX_; clear HB_ HBX_ HX_; have HA_ := Lib.hid hbox; clear hbox hb hg_) | ((with_reducible refine gate_store (t := 43) (p := 7) rfl ?_); refine wpList_put rfl rfl 43 _ _ rfl (off := 0) (cur := #[.int .i64 0, .int .i64 0, .int .i64 0, .int .i64 0]) HA_.out (by rfl) (.agg #[.int .i64 a0, .int .i64 a1, .int .i64 a2, .int .i64 a3]) (by rfl) [.int .i64 a0, .int .i64 a1, .int .i64 a2, .int .i64 a3] rfl (by kernel_rfl) (by simp) (four_ints' _ _ _ _) #[.int .i64 a0, .int .i64 a1, .int .i64 a2, .int .i64 a3] rfl ?_; intro w_ hs_ hg_; have HB_ := Lib.hid (bel_grown HB.out hg_ HGA.out HB.out.size); have HBX_ := Lib.hid (blk_grown HBX.out hg_ (fun h => by injection h with h; exact NA.out.1 h)); have HX_ := Lib.hid (blk_grown HX.out hg_ (fun h => by injection h with h; exact NA.out.2 h)); clear HB HBX HX; have HB := HB_; have HBX := HBX_; have HX := HX_; clear HB_ HBX_ HX_; clear HA_; have HVA := Lib.hid hs_; clear hs_ hg_; have cb0 := cel0 HBX.out 0 _ rfl; have cb1 := cel0 HBX.out 1 _ rfl; have lb := hlt HBX.out; have lx := hlt HX.out; have cx0 := cel0 HX.out 0 _ rfl; have cx1 := cel0 HX.out 1 _ rfl; have cx2 := cel0 HX.out 2 _ rfl; have cx3 := cel0 HX.out 3 _ rfl) | (go_at_call 59; (with_reducible refine (HB2.out _ HB.out).mono ?_); rintro e w_ ⟨rfl, hb⟩; clear cb0 cb1 lb lx cx0 cx1 cx2 cx3; have HB_ := Lib.hid (below_step HB.out hb); have HBX_ := Lib.hid (hep HBX.out hb); have HX_ := Lib.hid (hep HX.out hb); have HVA_ := Lib.hid (hep HVA.out hb); clear HB HBX HX HVA; have HB := HB_; have HBX := HBX_; have HX := HX_; have HVA := HVA_; clear HB_ HBX_ HX_ HVA_; clear hb) | ((with_reducible refine gate_dst (N := 9) rfl ?_); refine box_event ?hg (N := 9) ?hd (cs := #[.int .i64 0, .int .i64 0, .int .i64 0, .int .i64 0]) (t := 43) ?hr ?_; (case hd => rfl); (case hg => rfl); (case hr => first | (go_simp; done) | (go_simp; rfl)); intro gd hg_ w9 hbox hb; have HGD := Lib.hid (show w.heap.size ≤ gd by rw [hg_]; exact HB.out.size); have ND := Lib.hid (show gb ≠ gd ∧ gx ≠ gd ∧ ga ≠ gd from ⟨by rw [hg_]; exact Nat.ne_of_lt (hlt HBX.out), by rw [hg_]; exact Nat.ne_of_lt (hlt HX.out), by rw [hg_]; exact Nat.ne_of_lt (hlt HVA.out)⟩); have HB_ := Lib.hid (below_step HB.out hb); have HBX_ := Lib.hid (hep HBX.out hb); have HX_ := Lib.hid (hep HX.out hb); have HVA_ := Lib.hid (hep HVA.out hb); clear HB HBX HX HVA; have HB := HB_; have HBX := HBX_; have HX := HX_; have HVA := HVA_; clear HB_ HBX_ HX_ HVA_; have HD_ := Lib.hid hbox; clear hbox hb hg_) | ((with_reducible refine gate_store (t := 43) (p := 9) rfl ?_); refine wpList_put rfl rfl 43 _ _ rfl (off := 0) (cur := #[.int .i64 0, .int .i64 0, .int .i64 0, .int .i64 0]) HD_.out (by rfl) (.agg #[.int .i64 b0, .int .i64 b1, .int .i64 b2, .int .i64 b3]) (by rfl) [.int .i64 b0, .int .i64 b1, .int .i64 b2, .int .i64 b3] rfl (by kernel_rfl) (by simp) (four_ints' _ _ _ _) #[.int .i64 b0, .int .i64 b1, .int .i64 b2, .int .i64 b3] rfl ?_; intro w_ hs_ hg_; have HB_ := Lib.hid (bel_grown HB.out hg_ HGD.out HB.out.size); have HBX_ := Lib.hid (blk_grown HBX.out hg_ (fun h => by injection h with h; exact ND.out.1 h)); have HX_ := Lib.hid (blk_grown HX.out hg_ (fun h => by injection h with h; exact ND.out.2.1 h)); have HVA_ := Lib.hid (blk_grown HVA.out hg_ (fun h => by injection h with h; exact ND.out.2.2 h)); clear HB HBX HX HVA; have HB := HB_; have HBX := HBX_; have HX := HX_; have HVA := HVA_; clear HB_ HBX_ HX_ HVA_; clear HD_; have HVB := Lib.hid hs_; clear hs_ hg_; have cb0 := cel0 HBX.out 0 _ rfl; have cb1 := cel0 HBX.out 1 _ rfl; have lb := hlt HBX.out; have lx := hlt HX.out; have cx0 := cel0 HX.out 0 _ rfl; have cx1 := cel0 HX.out 1 _ rfl; have cx2 := cel0 HX.out 2 _ rfl; have cx3 := cel0 HX.out 3 _ rfl; have la := hlt HVA.out; have ld := hlt HVB.out; have ca3 := cel0 HVA.out 3 _ rfl; have cd2 := cel0 HVB.out 2 _ rfl; have ca1 := cel0 HVA.out 1 _ rfl; have cd1 := cel0 HVB.out 1 _ rfl))
  clear cb0 cb1 lb lx cx0 cx1 cx2 cx3 la ld ca3 cd2 ca1 cd1
  go_loopw [29] (fun t wr => ∃ i : Nat, i ≤ os.length ∧ t = .int .i64 i ∧ Aside0 (((os.drop i).any fun k => crE a1 b1 k x) = R) ∧ Aside0 (Below w.heap.size w wr) ∧ Aside0 (wr.heap[gb]? = some (.cells #[.slice A ns.length c, .slice A2 ls.length c2] 25 (0, 0))) ∧ Aside0 (wr.heap[gx]? = some (.cells #[.int .i64 x.f0, .int .i64 x.f1, .int .i64 x.f2, .int .i64 x.f3] 45 (0, 0))) ∧ Aside0 (wr.heap[ga]? = some (.cells #[.int .i64 a0, .int .i64 a1, .int .i64 a2, .int .i64 a3] 43 (0, 0))) ∧ Aside0 (wr.heap[gd]? = some (.cells #[.int .i64 b0, .int .i64 b1, .int .i64 b2, .int .i64 b3] 43 (0, 0)))) (fun t _ => os.length - (intOf t).toNat)
  case atStart => exact ⟨0, by omega, rfl, ⟨HRR.out⟩, ⟨HB.out⟩, ⟨HBX.out⟩, ⟨HX.out⟩, ⟨HVA.out⟩, ⟨HVB.out⟩⟩
  case round =>
    clear HB HBX HX HVA HVB
    obtain ⟨i, hi, rfl, hC, hB, hBX, hX, hVA, hVB⟩ := hrel
    by_cases hil : i < os.length
    · obtain ⟨ad, rfl, h0, h1, h2, h3⟩ := cells_link (HR3.out.below hB.out).1 i hil
      have hC2 := hC.out
      rw [List.drop_eq_getElem_cons hil, List.any_cons] at hC2
      have HC2 := Lib.hid hC2
      clear hC hC2
      generalize os[i] = z at h0 h1 h2 h3 HC2
      have q0 : (0 : Int) ≤ (i : Int) := by omega
      have q1 : (i : Int) < (os.length : Int) := by omega
      have q2 : wrap64 ((i : Int) + 1) = ((i + 1 : Nat) : Int) := by have := HOL.out; unfold wrap64; omega
      have HB := Lib.hid hB.out
      have HBX := Lib.hid hBX.out
      have HX := Lib.hid hX.out
      have HVA := Lib.hid hVA.out
      have HVB := Lib.hid hVB.out
      clear hB hBX hX hVA hVB
      generalize hE : crE a1 b1 z x = E at HC2
      have HE := Lib.hid hE
      have hE2 := hE
      unfold crE at hE2
      rcases ways4 (z.f2 == x.f2) (z.f3 == x.f3) (b1 != 3) with c1 | ⟨c1, c2⟩ | ⟨c1, c2, c3⟩ | ⟨c1, c2, c3⟩
      · rcases ways5 (z.f0 == x.f0) (z.f1 == x.f1) (a1 != 5) (a1 != 1) with d1 | ⟨d1, d2⟩ | ⟨d1, d2, d3⟩ | ⟨d1, d2, d3, d4⟩ | ⟨d1, d2, d3, d4⟩
        · have HES := Lib.hid (show E = false by rw [← hE2]; simp only [c1, d1, Bool.and_false, Bool.false_and, Bool.true_and, Bool.and_true, Bool.or_false, Bool.false_or, Bool.or_true, Bool.true_or, Bool.or_self, Bool.and_self])
          clear hE2 hE
          go_wp2_with (first | ((with_reducible refine gate_dst (N := 12) rfl ?_); refine box_event ?hg (N := 12) ?hd (cs := #[.int .i64 0, .int .i64 0, .int .i64 0, .int .i64 0]) (t := 45) ?hr ?_; (case hd => rfl); (case hg => rfl); (case hr => first | (go_simp; done) | (go_simp; rfl)); intro gk hg_ w12 hbox hb; have HGK := Lib.hid (show w.heap.size ≤ gk by rw [hg_]; exact HB.out.size); have NK := Lib.hid (show gb ≠ gk ∧ gx ≠ gk ∧ ga ≠ gk ∧ gd ≠ gk from ⟨by rw [hg_]; exact Nat.ne_of_lt (hlt HBX.out), by rw [hg_]; exact Nat.ne_of_lt (hlt HX.out), by rw [hg_]; exact Nat.ne_of_lt (hlt HVA.out), by rw [hg_]; exact Nat.ne_of_lt (hlt HVB.out)⟩); clear h0 h1 h2 h3; have HB_ := Lib.hid (below_step HB.out hb); have HBX_ := Lib.hid (hep HBX.out hb); have HX_ := Lib.hid (hep HX.out hb); have HVA_ := Lib.hid (hep HVA.out hb); have HVB_ := Lib.hid (hep HVB.out hb); clear HB HBX HX HVA HVB; have HB := HB_; have HBX := HBX_; have HX := HX_; have HVA := HVA_; have HVB := HVB_; clear HB_ HBX_ HX_ HVA_ HVB_; have HK_ := Lib.hid hbox; clear hbox hb hg_) | ((with_reducible refine gate_store (t := 45) (p := 12) rfl ?_); refine wpList_put rfl rfl 45 _ _ rfl (off := 0) (cur := #[.int .i64 0, .int .i64 0, .int .i64 0, .int .i64 0]) HK_.out (by rfl) (.agg #[.int .i64 z.f0, .int .i64 z.f1, .int .i64 z.f2, .int .i64 z.f3]) (by rfl) [.int .i64 z.f0, .int .i64 z.f1, .int .i64 z.f2, .int .i64 z.f3] rfl (by kernel_rfl) (by simp) (four_ints' _ _ _ _) #[.int .i64 z.f0, .int .i64 z.f1, .int .i64 z.f2, .int .i64 z.f3] rfl ?_; intro w_ hs_ hg_; have HB_ := Lib.hid (bel_grown HB.out hg_ HGK.out HB.out.size); have HBX_ := Lib.hid (blk_grown HBX.out hg_ (fun h => by injection h with h; exact NK.out.1 h)); have HX_ := Lib.hid (blk_grown HX.out hg_ (fun h => by injection h with h; exact NK.out.2.1 h)); have HVA_ := Lib.hid (blk_grown HVA.out hg_ (fun h => by injection h with h; exact NK.out.2.2.1 h)); have HVB_ := Lib.hid (blk_grown HVB.out hg_ (fun h => by injection h with h; exact NK.out.2.2.2 h)); clear HB HBX HX HVA HVB; have HB := HB_; have HBX := HBX_; have HX := HX_; have HVA := HVA_; have HVB := HVB_; clear HB_ HBX_ HX_ HVA_ HVB_; clear HK_; have HZ := Lib.hid hs_; clear hs_ hg_; have lx := hlt HX.out; have la := hlt HVA.out; have ld := hlt HVB.out; have lz := hlt HZ.out; have cx0 := cel0 HX.out 0 _ rfl; have cx1 := cel0 HX.out 1 _ rfl; have cx2 := cel0 HX.out 2 _ rfl; have cx3 := cel0 HX.out 3 _ rfl; have cz0 := cel0 HZ.out 0 _ rfl; have cz1 := cel0 HZ.out 1 _ rfl; have cz2 := cel0 HZ.out 2 _ rfl; have cz3 := cel0 HZ.out 3 _ rfl; have ca1 := cel0 HVA.out 1 _ rfl; have cd1 := cel0 HVB.out 1 _ rfl))
          go_roundw
          case measure => first | (rw [q2]; exact lower hil) | (simp only [intOf]; omega)
          case rel => exact ⟨i + 1, hil, by first | rw [q2] | simp, ⟨by have h := HC2.out; rw [HES.out, Bool.false_or] at h; exact h⟩, ⟨HB.out⟩, ⟨HBX.out⟩, ⟨HX.out⟩, ⟨HVA.out⟩, ⟨HVB.out⟩⟩
        · have HES := Lib.hid (show E = false by rw [← hE2]; simp only [c1, d1, d2, Bool.and_false, Bool.false_and, Bool.true_and, Bool.and_true, Bool.or_false, Bool.false_or, Bool.or_true, Bool.true_or, Bool.or_self, Bool.and_self])
          clear hE2 hE
          go_wp2_with (first | ((with_reducible refine gate_dst (N := 12) rfl ?_); refine box_event ?hg (N := 12) ?hd (cs := #[.int .i64 0, .int .i64 0, .int .i64 0, .int .i64 0]) (t := 45) ?hr ?_; (case hd => rfl); (case hg => rfl); (case hr => first | (go_simp; done) | (go_simp; rfl)); intro gk hg_ w12 hbox hb; have HGK := Lib.hid (show w.heap.size ≤ gk by rw [hg_]; exact HB.out.size); have NK := Lib.hid (show gb ≠ gk ∧ gx ≠ gk ∧ ga ≠ gk ∧ gd ≠ gk from ⟨by rw [hg_]; exact Nat.ne_of_lt (hlt HBX.out), by rw [hg_]; exact Nat.ne_of_lt (hlt HX.out), by rw [hg_]; exact Nat.ne_of_lt (hlt HVA.out), by rw [hg_]; exact Nat.ne_of_lt (hlt HVB.out)⟩); clear h0 h1 h2 h3; have HB_ := Lib.hid (below_step HB.out hb); have HBX_ := Lib.hid (hep HBX.out hb); have HX_ := Lib.hid (hep HX.out hb); have HVA_ := Lib.hid (hep HVA.out hb); have HVB_ := Lib.hid (hep HVB.out hb); clear HB HBX HX HVA HVB; have HB := HB_; have HBX := HBX_; have HX := HX_; have HVA := HVA_; have HVB := HVB_; clear HB_ HBX_ HX_ HVA_ HVB_; have HK_ := Lib.hid hbox; clear hbox hb hg_) | ((with_reducible refine gate_store (t := 45) (p := 12) rfl ?_); refine wpList_put rfl rfl 45 _ _ rfl (off := 0) (cur := #[.int .i64 0, .int .i64 0, .int .i64 0, .int .i64 0]) HK_.out (by rfl) (.agg #[.int .i64 z.f0, .int .i64 z.f1, .int .i64 z.f2, .int .i64 z.f3]) (by rfl) [.int .i64 z.f0, .int .i64 z.f1, .int .i64 z.f2, .int .i64 z.f3] rfl (by kernel_rfl) (by simp) (four_ints' _ _ _ _) #[.int .i64 z.f0, .int .i64 z.f1, .int .i64 z.f2, .int .i64 z.f3] rfl ?_; intro w_ hs_ hg_; have HB_ := Lib.hid (bel_grown HB.out hg_ HGK.out HB.out.size); have HBX_ := Lib.hid (blk_grown HBX.out hg_ (fun h => by injection h with h; exact NK.out.1 h)); have HX_ := Lib.hid (blk_grown HX.out hg_ (fun h => by injection h with h; exact NK.out.2.1 h)); have HVA_ := Lib.hid (blk_grown HVA.out hg_ (fun h => by injection h with h; exact NK.out.2.2.1 h)); have HVB_ := Lib.hid (blk_grown HVB.out hg_ (fun h => by injection h with h; exact NK.out.2.2.2 h)); clear HB HBX HX HVA HVB; have HB := HB_; have HBX := HBX_; have HX := HX_; have HVA := HVA_; have HVB := HVB_; clear HB_ HBX_ HX_ HVA_ HVB_; clear HK_; have HZ := Lib.hid hs_; clear hs_ hg_; have lx := hlt HX.out; have la := hlt HVA.out; have ld := hlt HVB.out; have lz := hlt HZ.out; have cx0 := cel0 HX.out 0 _ rfl; have cx1 := cel0 HX.out 1 _ rfl; have cx2 := cel0 HX.out 2 _ rfl; have cx3 := cel0 HX.out 3 _ rfl; have cz0 := cel0 HZ.out 0 _ rfl; have cz1 := cel0 HZ.out 1 _ rfl; have cz2 := cel0 HZ.out 2 _ rfl; have cz3 := cel0 HZ.out 3 _ rfl; have ca1 := cel0 HVA.out 1 _ rfl; have cd1 := cel0 HVB.out 1 _ rfl))
          go_roundw
          case measure => first | (rw [q2]; exact lower hil) | (simp only [intOf]; omega)
          case rel => exact ⟨i + 1, hil, by first | rw [q2] | simp, ⟨by have h := HC2.out; rw [HES.out, Bool.false_or] at h; exact h⟩, ⟨HB.out⟩, ⟨HBX.out⟩, ⟨HX.out⟩, ⟨HVA.out⟩, ⟨HVB.out⟩⟩
        · have HES := Lib.hid (show E = false by rw [← hE2]; simp only [c1, d1, d2, d3, Bool.and_false, Bool.false_and, Bool.true_and, Bool.and_true, Bool.or_false, Bool.false_or, Bool.or_true, Bool.true_or, Bool.or_self, Bool.and_self])
          clear hE2 hE
          go_wp2_with (first | ((with_reducible refine gate_dst (N := 12) rfl ?_); refine box_event ?hg (N := 12) ?hd (cs := #[.int .i64 0, .int .i64 0, .int .i64 0, .int .i64 0]) (t := 45) ?hr ?_; (case hd => rfl); (case hg => rfl); (case hr => first | (go_simp; done) | (go_simp; rfl)); intro gk hg_ w12 hbox hb; have HGK := Lib.hid (show w.heap.size ≤ gk by rw [hg_]; exact HB.out.size); have NK := Lib.hid (show gb ≠ gk ∧ gx ≠ gk ∧ ga ≠ gk ∧ gd ≠ gk from ⟨by rw [hg_]; exact Nat.ne_of_lt (hlt HBX.out), by rw [hg_]; exact Nat.ne_of_lt (hlt HX.out), by rw [hg_]; exact Nat.ne_of_lt (hlt HVA.out), by rw [hg_]; exact Nat.ne_of_lt (hlt HVB.out)⟩); clear h0 h1 h2 h3; have HB_ := Lib.hid (below_step HB.out hb); have HBX_ := Lib.hid (hep HBX.out hb); have HX_ := Lib.hid (hep HX.out hb); have HVA_ := Lib.hid (hep HVA.out hb); have HVB_ := Lib.hid (hep HVB.out hb); clear HB HBX HX HVA HVB; have HB := HB_; have HBX := HBX_; have HX := HX_; have HVA := HVA_; have HVB := HVB_; clear HB_ HBX_ HX_ HVA_ HVB_; have HK_ := Lib.hid hbox; clear hbox hb hg_) | ((with_reducible refine gate_store (t := 45) (p := 12) rfl ?_); refine wpList_put rfl rfl 45 _ _ rfl (off := 0) (cur := #[.int .i64 0, .int .i64 0, .int .i64 0, .int .i64 0]) HK_.out (by rfl) (.agg #[.int .i64 z.f0, .int .i64 z.f1, .int .i64 z.f2, .int .i64 z.f3]) (by rfl) [.int .i64 z.f0, .int .i64 z.f1, .int .i64 z.f2, .int .i64 z.f3] rfl (by kernel_rfl) (by simp) (four_ints' _ _ _ _) #[.int .i64 z.f0, .int .i64 z.f1, .int .i64 z.f2, .int .i64 z.f3] rfl ?_; intro w_ hs_ hg_; have HB_ := Lib.hid (bel_grown HB.out hg_ HGK.out HB.out.size); have HBX_ := Lib.hid (blk_grown HBX.out hg_ (fun h => by injection h with h; exact NK.out.1 h)); have HX_ := Lib.hid (blk_grown HX.out hg_ (fun h => by injection h with h; exact NK.out.2.1 h)); have HVA_ := Lib.hid (blk_grown HVA.out hg_ (fun h => by injection h with h; exact NK.out.2.2.1 h)); have HVB_ := Lib.hid (blk_grown HVB.out hg_ (fun h => by injection h with h; exact NK.out.2.2.2 h)); clear HB HBX HX HVA HVB; have HB := HB_; have HBX := HBX_; have HX := HX_; have HVA := HVA_; have HVB := HVB_; clear HB_ HBX_ HX_ HVA_ HVB_; clear HK_; have HZ := Lib.hid hs_; clear hs_ hg_; have lx := hlt HX.out; have la := hlt HVA.out; have ld := hlt HVB.out; have lz := hlt HZ.out; have cx0 := cel0 HX.out 0 _ rfl; have cx1 := cel0 HX.out 1 _ rfl; have cx2 := cel0 HX.out 2 _ rfl; have cx3 := cel0 HX.out 3 _ rfl; have cz0 := cel0 HZ.out 0 _ rfl; have cz1 := cel0 HZ.out 1 _ rfl; have cz2 := cel0 HZ.out 2 _ rfl; have cz3 := cel0 HZ.out 3 _ rfl; have ca1 := cel0 HVA.out 1 _ rfl; have cd1 := cel0 HVB.out 1 _ rfl))
          go_roundw
          case measure => first | (rw [q2]; exact lower hil) | (simp only [intOf]; omega)
          case rel => exact ⟨i + 1, hil, by first | rw [q2] | simp, ⟨by have h := HC2.out; rw [HES.out, Bool.false_or] at h; exact h⟩, ⟨HB.out⟩, ⟨HBX.out⟩, ⟨HX.out⟩, ⟨HVA.out⟩, ⟨HVB.out⟩⟩
        · have HES := Lib.hid (show E = false by rw [← hE2]; simp only [c1, d1, d2, d3, d4, Bool.and_false, Bool.false_and, Bool.true_and, Bool.and_true, Bool.or_false, Bool.false_or, Bool.or_true, Bool.true_or, Bool.or_self, Bool.and_self])
          clear hE2 hE
          go_wp2_with (first | ((with_reducible refine gate_dst (N := 12) rfl ?_); refine box_event ?hg (N := 12) ?hd (cs := #[.int .i64 0, .int .i64 0, .int .i64 0, .int .i64 0]) (t := 45) ?hr ?_; (case hd => rfl); (case hg => rfl); (case hr => first | (go_simp; done) | (go_simp; rfl)); intro gk hg_ w12 hbox hb; have HGK := Lib.hid (show w.heap.size ≤ gk by rw [hg_]; exact HB.out.size); have NK := Lib.hid (show gb ≠ gk ∧ gx ≠ gk ∧ ga ≠ gk ∧ gd ≠ gk from ⟨by rw [hg_]; exact Nat.ne_of_lt (hlt HBX.out), by rw [hg_]; exact Nat.ne_of_lt (hlt HX.out), by rw [hg_]; exact Nat.ne_of_lt (hlt HVA.out), by rw [hg_]; exact Nat.ne_of_lt (hlt HVB.out)⟩); clear h0 h1 h2 h3; have HB_ := Lib.hid (below_step HB.out hb); have HBX_ := Lib.hid (hep HBX.out hb); have HX_ := Lib.hid (hep HX.out hb); have HVA_ := Lib.hid (hep HVA.out hb); have HVB_ := Lib.hid (hep HVB.out hb); clear HB HBX HX HVA HVB; have HB := HB_; have HBX := HBX_; have HX := HX_; have HVA := HVA_; have HVB := HVB_; clear HB_ HBX_ HX_ HVA_ HVB_; have HK_ := Lib.hid hbox; clear hbox hb hg_) | ((with_reducible refine gate_store (t := 45) (p := 12) rfl ?_); refine wpList_put rfl rfl 45 _ _ rfl (off := 0) (cur := #[.int .i64 0, .int .i64 0, .int .i64 0, .int .i64 0]) HK_.out (by rfl) (.agg #[.int .i64 z.f0, .int .i64 z.f1, .int .i64 z.f2, .int .i64 z.f3]) (by rfl) [.int .i64 z.f0, .int .i64 z.f1, .int .i64 z.f2, .int .i64 z.f3] rfl (by kernel_rfl) (by simp) (four_ints' _ _ _ _) #[.int .i64 z.f0, .int .i64 z.f1, .int .i64 z.f2, .int .i64 z.f3] rfl ?_; intro w_ hs_ hg_; have HB_ := Lib.hid (bel_grown HB.out hg_ HGK.out HB.out.size); have HBX_ := Lib.hid (blk_grown HBX.out hg_ (fun h => by injection h with h; exact NK.out.1 h)); have HX_ := Lib.hid (blk_grown HX.out hg_ (fun h => by injection h with h; exact NK.out.2.1 h)); have HVA_ := Lib.hid (blk_grown HVA.out hg_ (fun h => by injection h with h; exact NK.out.2.2.1 h)); have HVB_ := Lib.hid (blk_grown HVB.out hg_ (fun h => by injection h with h; exact NK.out.2.2.2 h)); clear HB HBX HX HVA HVB; have HB := HB_; have HBX := HBX_; have HX := HX_; have HVA := HVA_; have HVB := HVB_; clear HB_ HBX_ HX_ HVA_ HVB_; clear HK_; have HZ := Lib.hid hs_; clear hs_ hg_; have lx := hlt HX.out; have la := hlt HVA.out; have ld := hlt HVB.out; have lz := hlt HZ.out; have cx0 := cel0 HX.out 0 _ rfl; have cx1 := cel0 HX.out 1 _ rfl; have cx2 := cel0 HX.out 2 _ rfl; have cx3 := cel0 HX.out 3 _ rfl; have cz0 := cel0 HZ.out 0 _ rfl; have cz1 := cel0 HZ.out 1 _ rfl; have cz2 := cel0 HZ.out 2 _ rfl; have cz3 := cel0 HZ.out 3 _ rfl; have ca1 := cel0 HVA.out 1 _ rfl; have cd1 := cel0 HVB.out 1 _ rfl))
          go_roundw
          case measure => first | (rw [q2]; exact lower hil) | (simp only [intOf]; omega)
          case rel => exact ⟨i + 1, hil, by first | rw [q2] | simp, ⟨by have h := HC2.out; rw [HES.out, Bool.false_or] at h; exact h⟩, ⟨HB.out⟩, ⟨HBX.out⟩, ⟨HX.out⟩, ⟨HVA.out⟩, ⟨HVB.out⟩⟩
        · have HES := Lib.hid (show E = true by rw [← hE2]; simp only [c1, d1, d2, d3, d4, Bool.and_false, Bool.false_and, Bool.true_and, Bool.and_true, Bool.or_false, Bool.false_or, Bool.or_true, Bool.true_or, Bool.or_self, Bool.and_self])
          clear hE2 hE
          go_wp2_with (first | ((with_reducible refine gate_dst (N := 12) rfl ?_); refine box_event ?hg (N := 12) ?hd (cs := #[.int .i64 0, .int .i64 0, .int .i64 0, .int .i64 0]) (t := 45) ?hr ?_; (case hd => rfl); (case hg => rfl); (case hr => first | (go_simp; done) | (go_simp; rfl)); intro gk hg_ w12 hbox hb; have HGK := Lib.hid (show w.heap.size ≤ gk by rw [hg_]; exact HB.out.size); have NK := Lib.hid (show gb ≠ gk ∧ gx ≠ gk ∧ ga ≠ gk ∧ gd ≠ gk from ⟨by rw [hg_]; exact Nat.ne_of_lt (hlt HBX.out), by rw [hg_]; exact Nat.ne_of_lt (hlt HX.out), by rw [hg_]; exact Nat.ne_of_lt (hlt HVA.out), by rw [hg_]; exact Nat.ne_of_lt (hlt HVB.out)⟩); clear h0 h1 h2 h3; have HB_ := Lib.hid (below_step HB.out hb); have HBX_ := Lib.hid (hep HBX.out hb); have HX_ := Lib.hid (hep HX.out hb); have HVA_ := Lib.hid (hep HVA.out hb); have HVB_ := Lib.hid (hep HVB.out hb); clear HB HBX HX HVA HVB; have HB := HB_; have HBX := HBX_; have HX := HX_; have HVA := HVA_; have HVB := HVB_; clear HB_ HBX_ HX_ HVA_ HVB_; have HK_ := Lib.hid hbox; clear hbox hb hg_) | ((with_reducible refine gate_store (t := 45) (p := 12) rfl ?_); refine wpList_put rfl rfl 45 _ _ rfl (off := 0) (cur := #[.int .i64 0, .int .i64 0, .int .i64 0, .int .i64 0]) HK_.out (by rfl) (.agg #[.int .i64 z.f0, .int .i64 z.f1, .int .i64 z.f2, .int .i64 z.f3]) (by rfl) [.int .i64 z.f0, .int .i64 z.f1, .int .i64 z.f2, .int .i64 z.f3] rfl (by kernel_rfl) (by simp) (four_ints' _ _ _ _) #[.int .i64 z.f0, .int .i64 z.f1, .int .i64 z.f2, .int .i64 z.f3] rfl ?_; intro w_ hs_ hg_; have HB_ := Lib.hid (bel_grown HB.out hg_ HGK.out HB.out.size); have HBX_ := Lib.hid (blk_grown HBX.out hg_ (fun h => by injection h with h; exact NK.out.1 h)); have HX_ := Lib.hid (blk_grown HX.out hg_ (fun h => by injection h with h; exact NK.out.2.1 h)); have HVA_ := Lib.hid (blk_grown HVA.out hg_ (fun h => by injection h with h; exact NK.out.2.2.1 h)); have HVB_ := Lib.hid (blk_grown HVB.out hg_ (fun h => by injection h with h; exact NK.out.2.2.2 h)); clear HB HBX HX HVA HVB; have HB := HB_; have HBX := HBX_; have HX := HX_; have HVA := HVA_; have HVB := HVB_; clear HB_ HBX_ HX_ HVA_ HVB_; clear HK_; have HZ := Lib.hid hs_; clear hs_ hg_; have lx := hlt HX.out; have la := hlt HVA.out; have ld := hlt HVB.out; have lz := hlt HZ.out; have cx0 := cel0 HX.out 0 _ rfl; have cx1 := cel0 HX.out 1 _ rfl; have cx2 := cel0 HX.out 2 _ rfl; have cx3 := cel0 HX.out 3 _ rfl; have cz0 := cel0 HZ.out 0 _ rfl; have cz1 := cel0 HZ.out 1 _ rfl; have cz2 := cel0 HZ.out 2 _ rfl; have cz3 := cel0 HZ.out 3 _ rfl; have ca1 := cel0 HVA.out 1 _ rfl; have cd1 := cel0 HVB.out 1 _ rfl))
          go_ret
          exact ⟨by have h := HC2.out; rw [HES.out, Bool.true_or] at h; rw [← h]; rfl, HB.out⟩
      · rcases ways5 (z.f0 == x.f0) (z.f1 == x.f1) (a1 != 5) (a1 != 1) with d1 | ⟨d1, d2⟩ | ⟨d1, d2, d3⟩ | ⟨d1, d2, d3, d4⟩ | ⟨d1, d2, d3, d4⟩
        · have HES := Lib.hid (show E = false by rw [← hE2]; simp only [c1, c2, d1, Bool.and_false, Bool.false_and, Bool.true_and, Bool.and_true, Bool.or_false, Bool.false_or, Bool.or_true, Bool.true_or, Bool.or_self, Bool.and_self])
          clear hE2 hE
          go_wp2_with (first | ((with_reducible refine gate_dst (N := 12) rfl ?_); refine box_event ?hg (N := 12) ?hd (cs := #[.int .i64 0, .int .i64 0, .int .i64 0, .int .i64 0]) (t := 45) ?hr ?_; (case hd => rfl); (case hg => rfl); (case hr => first | (go_simp; done) | (go_simp; rfl)); intro gk hg_ w12 hbox hb; have HGK := Lib.hid (show w.heap.size ≤ gk by rw [hg_]; exact HB.out.size); have NK := Lib.hid (show gb ≠ gk ∧ gx ≠ gk ∧ ga ≠ gk ∧ gd ≠ gk from ⟨by rw [hg_]; exact Nat.ne_of_lt (hlt HBX.out), by rw [hg_]; exact Nat.ne_of_lt (hlt HX.out), by rw [hg_]; exact Nat.ne_of_lt (hlt HVA.out), by rw [hg_]; exact Nat.ne_of_lt (hlt HVB.out)⟩); clear h0 h1 h2 h3; have HB_ := Lib.hid (below_step HB.out hb); have HBX_ := Lib.hid (hep HBX.out hb); have HX_ := Lib.hid (hep HX.out hb); have HVA_ := Lib.hid (hep HVA.out hb); have HVB_ := Lib.hid (hep HVB.out hb); clear HB HBX HX HVA HVB; have HB := HB_; have HBX := HBX_; have HX := HX_; have HVA := HVA_; have HVB := HVB_; clear HB_ HBX_ HX_ HVA_ HVB_; have HK_ := Lib.hid hbox; clear hbox hb hg_) | ((with_reducible refine gate_store (t := 45) (p := 12) rfl ?_); refine wpList_put rfl rfl 45 _ _ rfl (off := 0) (cur := #[.int .i64 0, .int .i64 0, .int .i64 0, .int .i64 0]) HK_.out (by rfl) (.agg #[.int .i64 z.f0, .int .i64 z.f1, .int .i64 z.f2, .int .i64 z.f3]) (by rfl) [.int .i64 z.f0, .int .i64 z.f1, .int .i64 z.f2, .int .i64 z.f3] rfl (by kernel_rfl) (by simp) (four_ints' _ _ _ _) #[.int .i64 z.f0, .int .i64 z.f1, .int .i64 z.f2, .int .i64 z.f3] rfl ?_; intro w_ hs_ hg_; have HB_ := Lib.hid (bel_grown HB.out hg_ HGK.out HB.out.size); have HBX_ := Lib.hid (blk_grown HBX.out hg_ (fun h => by injection h with h; exact NK.out.1 h)); have HX_ := Lib.hid (blk_grown HX.out hg_ (fun h => by injection h with h; exact NK.out.2.1 h)); have HVA_ := Lib.hid (blk_grown HVA.out hg_ (fun h => by injection h with h; exact NK.out.2.2.1 h)); have HVB_ := Lib.hid (blk_grown HVB.out hg_ (fun h => by injection h with h; exact NK.out.2.2.2 h)); clear HB HBX HX HVA HVB; have HB := HB_; have HBX := HBX_; have HX := HX_; have HVA := HVA_; have HVB := HVB_; clear HB_ HBX_ HX_ HVA_ HVB_; clear HK_; have HZ := Lib.hid hs_; clear hs_ hg_; have lx := hlt HX.out; have la := hlt HVA.out; have ld := hlt HVB.out; have lz := hlt HZ.out; have cx0 := cel0 HX.out 0 _ rfl; have cx1 := cel0 HX.out 1 _ rfl; have cx2 := cel0 HX.out 2 _ rfl; have cx3 := cel0 HX.out 3 _ rfl; have cz0 := cel0 HZ.out 0 _ rfl; have cz1 := cel0 HZ.out 1 _ rfl; have cz2 := cel0 HZ.out 2 _ rfl; have cz3 := cel0 HZ.out 3 _ rfl; have ca1 := cel0 HVA.out 1 _ rfl; have cd1 := cel0 HVB.out 1 _ rfl))
          go_roundw
          case measure => first | (rw [q2]; exact lower hil) | (simp only [intOf]; omega)
          case rel => exact ⟨i + 1, hil, by first | rw [q2] | simp, ⟨by have h := HC2.out; rw [HES.out, Bool.false_or] at h; exact h⟩, ⟨HB.out⟩, ⟨HBX.out⟩, ⟨HX.out⟩, ⟨HVA.out⟩, ⟨HVB.out⟩⟩
        · have HES := Lib.hid (show E = false by rw [← hE2]; simp only [c1, c2, d1, d2, Bool.and_false, Bool.false_and, Bool.true_and, Bool.and_true, Bool.or_false, Bool.false_or, Bool.or_true, Bool.true_or, Bool.or_self, Bool.and_self])
          clear hE2 hE
          go_wp2_with (first | ((with_reducible refine gate_dst (N := 12) rfl ?_); refine box_event ?hg (N := 12) ?hd (cs := #[.int .i64 0, .int .i64 0, .int .i64 0, .int .i64 0]) (t := 45) ?hr ?_; (case hd => rfl); (case hg => rfl); (case hr => first | (go_simp; done) | (go_simp; rfl)); intro gk hg_ w12 hbox hb; have HGK := Lib.hid (show w.heap.size ≤ gk by rw [hg_]; exact HB.out.size); have NK := Lib.hid (show gb ≠ gk ∧ gx ≠ gk ∧ ga ≠ gk ∧ gd ≠ gk from ⟨by rw [hg_]; exact Nat.ne_of_lt (hlt HBX.out), by rw [hg_]; exact Nat.ne_of_lt (hlt HX.out), by rw [hg_]; exact Nat.ne_of_lt (hlt HVA.out), by rw [hg_]; exact Nat.ne_of_lt (hlt HVB.out)⟩); clear h0 h1 h2 h3; have HB_ := Lib.hid (below_step HB.out hb); have HBX_ := Lib.hid (hep HBX.out hb); have HX_ := Lib.hid (hep HX.out hb); have HVA_ := Lib.hid (hep HVA.out hb); have HVB_ := Lib.hid (hep HVB.out hb); clear HB HBX HX HVA HVB; have HB := HB_; have HBX := HBX_; have HX := HX_; have HVA := HVA_; have HVB := HVB_; clear HB_ HBX_ HX_ HVA_ HVB_; have HK_ := Lib.hid hbox; clear hbox hb hg_) | ((with_reducible refine gate_store (t := 45) (p := 12) rfl ?_); refine wpList_put rfl rfl 45 _ _ rfl (off := 0) (cur := #[.int .i64 0, .int .i64 0, .int .i64 0, .int .i64 0]) HK_.out (by rfl) (.agg #[.int .i64 z.f0, .int .i64 z.f1, .int .i64 z.f2, .int .i64 z.f3]) (by rfl) [.int .i64 z.f0, .int .i64 z.f1, .int .i64 z.f2, .int .i64 z.f3] rfl (by kernel_rfl) (by simp) (four_ints' _ _ _ _) #[.int .i64 z.f0, .int .i64 z.f1, .int .i64 z.f2, .int .i64 z.f3] rfl ?_; intro w_ hs_ hg_; have HB_ := Lib.hid (bel_grown HB.out hg_ HGK.out HB.out.size); have HBX_ := Lib.hid (blk_grown HBX.out hg_ (fun h => by injection h with h; exact NK.out.1 h)); have HX_ := Lib.hid (blk_grown HX.out hg_ (fun h => by injection h with h; exact NK.out.2.1 h)); have HVA_ := Lib.hid (blk_grown HVA.out hg_ (fun h => by injection h with h; exact NK.out.2.2.1 h)); have HVB_ := Lib.hid (blk_grown HVB.out hg_ (fun h => by injection h with h; exact NK.out.2.2.2 h)); clear HB HBX HX HVA HVB; have HB := HB_; have HBX := HBX_; have HX := HX_; have HVA := HVA_; have HVB := HVB_; clear HB_ HBX_ HX_ HVA_ HVB_; clear HK_; have HZ := Lib.hid hs_; clear hs_ hg_; have lx := hlt HX.out; have la := hlt HVA.out; have ld := hlt HVB.out; have lz := hlt HZ.out; have cx0 := cel0 HX.out 0 _ rfl; have cx1 := cel0 HX.out 1 _ rfl; have cx2 := cel0 HX.out 2 _ rfl; have cx3 := cel0 HX.out 3 _ rfl; have cz0 := cel0 HZ.out 0 _ rfl; have cz1 := cel0 HZ.out 1 _ rfl; have cz2 := cel0 HZ.out 2 _ rfl; have cz3 := cel0 HZ.out 3 _ rfl; have ca1 := cel0 HVA.out 1 _ rfl; have cd1 := cel0 HVB.out 1 _ rfl))
          go_roundw
          case measure => first | (rw [q2]; exact lower hil) | (simp only [intOf]; omega)
          case rel => exact ⟨i + 1, hil, by first | rw [q2] | simp, ⟨by have h := HC2.out; rw [HES.out, Bool.false_or] at h; exact h⟩, ⟨HB.out⟩, ⟨HBX.out⟩, ⟨HX.out⟩, ⟨HVA.out⟩, ⟨HVB.out⟩⟩
        · have HES := Lib.hid (show E = false by rw [← hE2]; simp only [c1, c2, d1, d2, d3, Bool.and_false, Bool.false_and, Bool.true_and, Bool.and_true, Bool.or_false, Bool.false_or, Bool.or_true, Bool.true_or, Bool.or_self, Bool.and_self])
          clear hE2 hE
          go_wp2_with (first | ((with_reducible refine gate_dst (N := 12) rfl ?_); refine box_event ?hg (N := 12) ?hd (cs := #[.int .i64 0, .int .i64 0, .int .i64 0, .int .i64 0]) (t := 45) ?hr ?_; (case hd => rfl); (case hg => rfl); (case hr => first | (go_simp; done) | (go_simp; rfl)); intro gk hg_ w12 hbox hb; have HGK := Lib.hid (show w.heap.size ≤ gk by rw [hg_]; exact HB.out.size); have NK := Lib.hid (show gb ≠ gk ∧ gx ≠ gk ∧ ga ≠ gk ∧ gd ≠ gk from ⟨by rw [hg_]; exact Nat.ne_of_lt (hlt HBX.out), by rw [hg_]; exact Nat.ne_of_lt (hlt HX.out), by rw [hg_]; exact Nat.ne_of_lt (hlt HVA.out), by rw [hg_]; exact Nat.ne_of_lt (hlt HVB.out)⟩); clear h0 h1 h2 h3; have HB_ := Lib.hid (below_step HB.out hb); have HBX_ := Lib.hid (hep HBX.out hb); have HX_ := Lib.hid (hep HX.out hb); have HVA_ := Lib.hid (hep HVA.out hb); have HVB_ := Lib.hid (hep HVB.out hb); clear HB HBX HX HVA HVB; have HB := HB_; have HBX := HBX_; have HX := HX_; have HVA := HVA_; have HVB := HVB_; clear HB_ HBX_ HX_ HVA_ HVB_; have HK_ := Lib.hid hbox; clear hbox hb hg_) | ((with_reducible refine gate_store (t := 45) (p := 12) rfl ?_); refine wpList_put rfl rfl 45 _ _ rfl (off := 0) (cur := #[.int .i64 0, .int .i64 0, .int .i64 0, .int .i64 0]) HK_.out (by rfl) (.agg #[.int .i64 z.f0, .int .i64 z.f1, .int .i64 z.f2, .int .i64 z.f3]) (by rfl) [.int .i64 z.f0, .int .i64 z.f1, .int .i64 z.f2, .int .i64 z.f3] rfl (by kernel_rfl) (by simp) (four_ints' _ _ _ _) #[.int .i64 z.f0, .int .i64 z.f1, .int .i64 z.f2, .int .i64 z.f3] rfl ?_; intro w_ hs_ hg_; have HB_ := Lib.hid (bel_grown HB.out hg_ HGK.out HB.out.size); have HBX_ := Lib.hid (blk_grown HBX.out hg_ (fun h => by injection h with h; exact NK.out.1 h)); have HX_ := Lib.hid (blk_grown HX.out hg_ (fun h => by injection h with h; exact NK.out.2.1 h)); have HVA_ := Lib.hid (blk_grown HVA.out hg_ (fun h => by injection h with h; exact NK.out.2.2.1 h)); have HVB_ := Lib.hid (blk_grown HVB.out hg_ (fun h => by injection h with h; exact NK.out.2.2.2 h)); clear HB HBX HX HVA HVB; have HB := HB_; have HBX := HBX_; have HX := HX_; have HVA := HVA_; have HVB := HVB_; clear HB_ HBX_ HX_ HVA_ HVB_; clear HK_; have HZ := Lib.hid hs_; clear hs_ hg_; have lx := hlt HX.out; have la := hlt HVA.out; have ld := hlt HVB.out; have lz := hlt HZ.out; have cx0 := cel0 HX.out 0 _ rfl; have cx1 := cel0 HX.out 1 _ rfl; have cx2 := cel0 HX.out 2 _ rfl; have cx3 := cel0 HX.out 3 _ rfl; have cz0 := cel0 HZ.out 0 _ rfl; have cz1 := cel0 HZ.out 1 _ rfl; have cz2 := cel0 HZ.out 2 _ rfl; have cz3 := cel0 HZ.out 3 _ rfl; have ca1 := cel0 HVA.out 1 _ rfl; have cd1 := cel0 HVB.out 1 _ rfl))
          go_roundw
          case measure => first | (rw [q2]; exact lower hil) | (simp only [intOf]; omega)
          case rel => exact ⟨i + 1, hil, by first | rw [q2] | simp, ⟨by have h := HC2.out; rw [HES.out, Bool.false_or] at h; exact h⟩, ⟨HB.out⟩, ⟨HBX.out⟩, ⟨HX.out⟩, ⟨HVA.out⟩, ⟨HVB.out⟩⟩
        · have HES := Lib.hid (show E = false by rw [← hE2]; simp only [c1, c2, d1, d2, d3, d4, Bool.and_false, Bool.false_and, Bool.true_and, Bool.and_true, Bool.or_false, Bool.false_or, Bool.or_true, Bool.true_or, Bool.or_self, Bool.and_self])
          clear hE2 hE
          go_wp2_with (first | ((with_reducible refine gate_dst (N := 12) rfl ?_); refine box_event ?hg (N := 12) ?hd (cs := #[.int .i64 0, .int .i64 0, .int .i64 0, .int .i64 0]) (t := 45) ?hr ?_; (case hd => rfl); (case hg => rfl); (case hr => first | (go_simp; done) | (go_simp; rfl)); intro gk hg_ w12 hbox hb; have HGK := Lib.hid (show w.heap.size ≤ gk by rw [hg_]; exact HB.out.size); have NK := Lib.hid (show gb ≠ gk ∧ gx ≠ gk ∧ ga ≠ gk ∧ gd ≠ gk from ⟨by rw [hg_]; exact Nat.ne_of_lt (hlt HBX.out), by rw [hg_]; exact Nat.ne_of_lt (hlt HX.out), by rw [hg_]; exact Nat.ne_of_lt (hlt HVA.out), by rw [hg_]; exact Nat.ne_of_lt (hlt HVB.out)⟩); clear h0 h1 h2 h3; have HB_ := Lib.hid (below_step HB.out hb); have HBX_ := Lib.hid (hep HBX.out hb); have HX_ := Lib.hid (hep HX.out hb); have HVA_ := Lib.hid (hep HVA.out hb); have HVB_ := Lib.hid (hep HVB.out hb); clear HB HBX HX HVA HVB; have HB := HB_; have HBX := HBX_; have HX := HX_; have HVA := HVA_; have HVB := HVB_; clear HB_ HBX_ HX_ HVA_ HVB_; have HK_ := Lib.hid hbox; clear hbox hb hg_) | ((with_reducible refine gate_store (t := 45) (p := 12) rfl ?_); refine wpList_put rfl rfl 45 _ _ rfl (off := 0) (cur := #[.int .i64 0, .int .i64 0, .int .i64 0, .int .i64 0]) HK_.out (by rfl) (.agg #[.int .i64 z.f0, .int .i64 z.f1, .int .i64 z.f2, .int .i64 z.f3]) (by rfl) [.int .i64 z.f0, .int .i64 z.f1, .int .i64 z.f2, .int .i64 z.f3] rfl (by kernel_rfl) (by simp) (four_ints' _ _ _ _) #[.int .i64 z.f0, .int .i64 z.f1, .int .i64 z.f2, .int .i64 z.f3] rfl ?_; intro w_ hs_ hg_; have HB_ := Lib.hid (bel_grown HB.out hg_ HGK.out HB.out.size); have HBX_ := Lib.hid (blk_grown HBX.out hg_ (fun h => by injection h with h; exact NK.out.1 h)); have HX_ := Lib.hid (blk_grown HX.out hg_ (fun h => by injection h with h; exact NK.out.2.1 h)); have HVA_ := Lib.hid (blk_grown HVA.out hg_ (fun h => by injection h with h; exact NK.out.2.2.1 h)); have HVB_ := Lib.hid (blk_grown HVB.out hg_ (fun h => by injection h with h; exact NK.out.2.2.2 h)); clear HB HBX HX HVA HVB; have HB := HB_; have HBX := HBX_; have HX := HX_; have HVA := HVA_; have HVB := HVB_; clear HB_ HBX_ HX_ HVA_ HVB_; clear HK_; have HZ := Lib.hid hs_; clear hs_ hg_; have lx := hlt HX.out; have la := hlt HVA.out; have ld := hlt HVB.out; have lz := hlt HZ.out; have cx0 := cel0 HX.out 0 _ rfl; have cx1 := cel0 HX.out 1 _ rfl; have cx2 := cel0 HX.out 2 _ rfl; have cx3 := cel0 HX.out 3 _ rfl; have cz0 := cel0 HZ.out 0 _ rfl; have cz1 := cel0 HZ.out 1 _ rfl; have cz2 := cel0 HZ.out 2 _ rfl; have cz3 := cel0 HZ.out 3 _ rfl; have ca1 := cel0 HVA.out 1 _ rfl; have cd1 := cel0 HVB.out 1 _ rfl))
          go_roundw
          case measure => first | (rw [q2]; exact lower hil) | (simp only [intOf]; omega)
          case rel => exact ⟨i + 1, hil, by first | rw [q2] | simp, ⟨by have h := HC2.out; rw [HES.out, Bool.false_or] at h; exact h⟩, ⟨HB.out⟩, ⟨HBX.out⟩, ⟨HX.out⟩, ⟨HVA.out⟩, ⟨HVB.out⟩⟩
        · have HES := Lib.hid (show E = true by rw [← hE2]; simp only [c1, c2, d1, d2, d3, d4, Bool.and_false, Bool.false_and, Bool.true_and, Bool.and_true, Bool.or_false, Bool.false_or, Bool.or_true, Bool.true_or, Bool.or_self, Bool.and_self])
          clear hE2 hE
          go_wp2_with (first | ((with_reducible refine gate_dst (N := 12) rfl ?_); refine box_event ?hg (N := 12) ?hd (cs := #[.int .i64 0, .int .i64 0, .int .i64 0, .int .i64 0]) (t := 45) ?hr ?_; (case hd => rfl); (case hg => rfl); (case hr => first | (go_simp; done) | (go_simp; rfl)); intro gk hg_ w12 hbox hb; have HGK := Lib.hid (show w.heap.size ≤ gk by rw [hg_]; exact HB.out.size); have NK := Lib.hid (show gb ≠ gk ∧ gx ≠ gk ∧ ga ≠ gk ∧ gd ≠ gk from ⟨by rw [hg_]; exact Nat.ne_of_lt (hlt HBX.out), by rw [hg_]; exact Nat.ne_of_lt (hlt HX.out), by rw [hg_]; exact Nat.ne_of_lt (hlt HVA.out), by rw [hg_]; exact Nat.ne_of_lt (hlt HVB.out)⟩); clear h0 h1 h2 h3; have HB_ := Lib.hid (below_step HB.out hb); have HBX_ := Lib.hid (hep HBX.out hb); have HX_ := Lib.hid (hep HX.out hb); have HVA_ := Lib.hid (hep HVA.out hb); have HVB_ := Lib.hid (hep HVB.out hb); clear HB HBX HX HVA HVB; have HB := HB_; have HBX := HBX_; have HX := HX_; have HVA := HVA_; have HVB := HVB_; clear HB_ HBX_ HX_ HVA_ HVB_; have HK_ := Lib.hid hbox; clear hbox hb hg_) | ((with_reducible refine gate_store (t := 45) (p := 12) rfl ?_); refine wpList_put rfl rfl 45 _ _ rfl (off := 0) (cur := #[.int .i64 0, .int .i64 0, .int .i64 0, .int .i64 0]) HK_.out (by rfl) (.agg #[.int .i64 z.f0, .int .i64 z.f1, .int .i64 z.f2, .int .i64 z.f3]) (by rfl) [.int .i64 z.f0, .int .i64 z.f1, .int .i64 z.f2, .int .i64 z.f3] rfl (by kernel_rfl) (by simp) (four_ints' _ _ _ _) #[.int .i64 z.f0, .int .i64 z.f1, .int .i64 z.f2, .int .i64 z.f3] rfl ?_; intro w_ hs_ hg_; have HB_ := Lib.hid (bel_grown HB.out hg_ HGK.out HB.out.size); have HBX_ := Lib.hid (blk_grown HBX.out hg_ (fun h => by injection h with h; exact NK.out.1 h)); have HX_ := Lib.hid (blk_grown HX.out hg_ (fun h => by injection h with h; exact NK.out.2.1 h)); have HVA_ := Lib.hid (blk_grown HVA.out hg_ (fun h => by injection h with h; exact NK.out.2.2.1 h)); have HVB_ := Lib.hid (blk_grown HVB.out hg_ (fun h => by injection h with h; exact NK.out.2.2.2 h)); clear HB HBX HX HVA HVB; have HB := HB_; have HBX := HBX_; have HX := HX_; have HVA := HVA_; have HVB := HVB_; clear HB_ HBX_ HX_ HVA_ HVB_; clear HK_; have HZ := Lib.hid hs_; clear hs_ hg_; have lx := hlt HX.out; have la := hlt HVA.out; have ld := hlt HVB.out; have lz := hlt HZ.out; have cx0 := cel0 HX.out 0 _ rfl; have cx1 := cel0 HX.out 1 _ rfl; have cx2 := cel0 HX.out 2 _ rfl; have cx3 := cel0 HX.out 3 _ rfl; have cz0 := cel0 HZ.out 0 _ rfl; have cz1 := cel0 HZ.out 1 _ rfl; have cz2 := cel0 HZ.out 2 _ rfl; have cz3 := cel0 HZ.out 3 _ rfl; have ca1 := cel0 HVA.out 1 _ rfl; have cd1 := cel0 HVB.out 1 _ rfl))
          go_ret
          exact ⟨by have h := HC2.out; rw [HES.out, Bool.true_or] at h; rw [← h]; rfl, HB.out⟩
      · rcases ways5 (z.f0 == x.f0) (z.f1 == x.f1) (a1 != 5) (a1 != 1) with d1 | ⟨d1, d2⟩ | ⟨d1, d2, d3⟩ | ⟨d1, d2, d3, d4⟩ | ⟨d1, d2, d3, d4⟩
        · have HES := Lib.hid (show E = false by rw [← hE2]; simp only [c1, c2, c3, d1, Bool.and_false, Bool.false_and, Bool.true_and, Bool.and_true, Bool.or_false, Bool.false_or, Bool.or_true, Bool.true_or, Bool.or_self, Bool.and_self])
          clear hE2 hE
          go_wp2_with (first | ((with_reducible refine gate_dst (N := 12) rfl ?_); refine box_event ?hg (N := 12) ?hd (cs := #[.int .i64 0, .int .i64 0, .int .i64 0, .int .i64 0]) (t := 45) ?hr ?_; (case hd => rfl); (case hg => rfl); (case hr => first | (go_simp; done) | (go_simp; rfl)); intro gk hg_ w12 hbox hb; have HGK := Lib.hid (show w.heap.size ≤ gk by rw [hg_]; exact HB.out.size); have NK := Lib.hid (show gb ≠ gk ∧ gx ≠ gk ∧ ga ≠ gk ∧ gd ≠ gk from ⟨by rw [hg_]; exact Nat.ne_of_lt (hlt HBX.out), by rw [hg_]; exact Nat.ne_of_lt (hlt HX.out), by rw [hg_]; exact Nat.ne_of_lt (hlt HVA.out), by rw [hg_]; exact Nat.ne_of_lt (hlt HVB.out)⟩); clear h0 h1 h2 h3; have HB_ := Lib.hid (below_step HB.out hb); have HBX_ := Lib.hid (hep HBX.out hb); have HX_ := Lib.hid (hep HX.out hb); have HVA_ := Lib.hid (hep HVA.out hb); have HVB_ := Lib.hid (hep HVB.out hb); clear HB HBX HX HVA HVB; have HB := HB_; have HBX := HBX_; have HX := HX_; have HVA := HVA_; have HVB := HVB_; clear HB_ HBX_ HX_ HVA_ HVB_; have HK_ := Lib.hid hbox; clear hbox hb hg_) | ((with_reducible refine gate_store (t := 45) (p := 12) rfl ?_); refine wpList_put rfl rfl 45 _ _ rfl (off := 0) (cur := #[.int .i64 0, .int .i64 0, .int .i64 0, .int .i64 0]) HK_.out (by rfl) (.agg #[.int .i64 z.f0, .int .i64 z.f1, .int .i64 z.f2, .int .i64 z.f3]) (by rfl) [.int .i64 z.f0, .int .i64 z.f1, .int .i64 z.f2, .int .i64 z.f3] rfl (by kernel_rfl) (by simp) (four_ints' _ _ _ _) #[.int .i64 z.f0, .int .i64 z.f1, .int .i64 z.f2, .int .i64 z.f3] rfl ?_; intro w_ hs_ hg_; have HB_ := Lib.hid (bel_grown HB.out hg_ HGK.out HB.out.size); have HBX_ := Lib.hid (blk_grown HBX.out hg_ (fun h => by injection h with h; exact NK.out.1 h)); have HX_ := Lib.hid (blk_grown HX.out hg_ (fun h => by injection h with h; exact NK.out.2.1 h)); have HVA_ := Lib.hid (blk_grown HVA.out hg_ (fun h => by injection h with h; exact NK.out.2.2.1 h)); have HVB_ := Lib.hid (blk_grown HVB.out hg_ (fun h => by injection h with h; exact NK.out.2.2.2 h)); clear HB HBX HX HVA HVB; have HB := HB_; have HBX := HBX_; have HX := HX_; have HVA := HVA_; have HVB := HVB_; clear HB_ HBX_ HX_ HVA_ HVB_; clear HK_; have HZ := Lib.hid hs_; clear hs_ hg_; have lx := hlt HX.out; have la := hlt HVA.out; have ld := hlt HVB.out; have lz := hlt HZ.out; have cx0 := cel0 HX.out 0 _ rfl; have cx1 := cel0 HX.out 1 _ rfl; have cx2 := cel0 HX.out 2 _ rfl; have cx3 := cel0 HX.out 3 _ rfl; have cz0 := cel0 HZ.out 0 _ rfl; have cz1 := cel0 HZ.out 1 _ rfl; have cz2 := cel0 HZ.out 2 _ rfl; have cz3 := cel0 HZ.out 3 _ rfl; have ca1 := cel0 HVA.out 1 _ rfl; have cd1 := cel0 HVB.out 1 _ rfl))
          go_roundw
          case measure => first | (rw [q2]; exact lower hil) | (simp only [intOf]; omega)
          case rel => exact ⟨i + 1, hil, by first | rw [q2] | simp, ⟨by have h := HC2.out; rw [HES.out, Bool.false_or] at h; exact h⟩, ⟨HB.out⟩, ⟨HBX.out⟩, ⟨HX.out⟩, ⟨HVA.out⟩, ⟨HVB.out⟩⟩
        · have HES := Lib.hid (show E = false by rw [← hE2]; simp only [c1, c2, c3, d1, d2, Bool.and_false, Bool.false_and, Bool.true_and, Bool.and_true, Bool.or_false, Bool.false_or, Bool.or_true, Bool.true_or, Bool.or_self, Bool.and_self])
          clear hE2 hE
          go_wp2_with (first | ((with_reducible refine gate_dst (N := 12) rfl ?_); refine box_event ?hg (N := 12) ?hd (cs := #[.int .i64 0, .int .i64 0, .int .i64 0, .int .i64 0]) (t := 45) ?hr ?_; (case hd => rfl); (case hg => rfl); (case hr => first | (go_simp; done) | (go_simp; rfl)); intro gk hg_ w12 hbox hb; have HGK := Lib.hid (show w.heap.size ≤ gk by rw [hg_]; exact HB.out.size); have NK := Lib.hid (show gb ≠ gk ∧ gx ≠ gk ∧ ga ≠ gk ∧ gd ≠ gk from ⟨by rw [hg_]; exact Nat.ne_of_lt (hlt HBX.out), by rw [hg_]; exact Nat.ne_of_lt (hlt HX.out), by rw [hg_]; exact Nat.ne_of_lt (hlt HVA.out), by rw [hg_]; exact Nat.ne_of_lt (hlt HVB.out)⟩); clear h0 h1 h2 h3; have HB_ := Lib.hid (below_step HB.out hb); have HBX_ := Lib.hid (hep HBX.out hb); have HX_ := Lib.hid (hep HX.out hb); have HVA_ := Lib.hid (hep HVA.out hb); have HVB_ := Lib.hid (hep HVB.out hb); clear HB HBX HX HVA HVB; have HB := HB_; have HBX := HBX_; have HX := HX_; have HVA := HVA_; have HVB := HVB_; clear HB_ HBX_ HX_ HVA_ HVB_; have HK_ := Lib.hid hbox; clear hbox hb hg_) | ((with_reducible refine gate_store (t := 45) (p := 12) rfl ?_); refine wpList_put rfl rfl 45 _ _ rfl (off := 0) (cur := #[.int .i64 0, .int .i64 0, .int .i64 0, .int .i64 0]) HK_.out (by rfl) (.agg #[.int .i64 z.f0, .int .i64 z.f1, .int .i64 z.f2, .int .i64 z.f3]) (by rfl) [.int .i64 z.f0, .int .i64 z.f1, .int .i64 z.f2, .int .i64 z.f3] rfl (by kernel_rfl) (by simp) (four_ints' _ _ _ _) #[.int .i64 z.f0, .int .i64 z.f1, .int .i64 z.f2, .int .i64 z.f3] rfl ?_; intro w_ hs_ hg_; have HB_ := Lib.hid (bel_grown HB.out hg_ HGK.out HB.out.size); have HBX_ := Lib.hid (blk_grown HBX.out hg_ (fun h => by injection h with h; exact NK.out.1 h)); have HX_ := Lib.hid (blk_grown HX.out hg_ (fun h => by injection h with h; exact NK.out.2.1 h)); have HVA_ := Lib.hid (blk_grown HVA.out hg_ (fun h => by injection h with h; exact NK.out.2.2.1 h)); have HVB_ := Lib.hid (blk_grown HVB.out hg_ (fun h => by injection h with h; exact NK.out.2.2.2 h)); clear HB HBX HX HVA HVB; have HB := HB_; have HBX := HBX_; have HX := HX_; have HVA := HVA_; have HVB := HVB_; clear HB_ HBX_ HX_ HVA_ HVB_; clear HK_; have HZ := Lib.hid hs_; clear hs_ hg_; have lx := hlt HX.out; have la := hlt HVA.out; have ld := hlt HVB.out; have lz := hlt HZ.out; have cx0 := cel0 HX.out 0 _ rfl; have cx1 := cel0 HX.out 1 _ rfl; have cx2 := cel0 HX.out 2 _ rfl; have cx3 := cel0 HX.out 3 _ rfl; have cz0 := cel0 HZ.out 0 _ rfl; have cz1 := cel0 HZ.out 1 _ rfl; have cz2 := cel0 HZ.out 2 _ rfl; have cz3 := cel0 HZ.out 3 _ rfl; have ca1 := cel0 HVA.out 1 _ rfl; have cd1 := cel0 HVB.out 1 _ rfl))
          go_roundw
          case measure => first | (rw [q2]; exact lower hil) | (simp only [intOf]; omega)
          case rel => exact ⟨i + 1, hil, by first | rw [q2] | simp, ⟨by have h := HC2.out; rw [HES.out, Bool.false_or] at h; exact h⟩, ⟨HB.out⟩, ⟨HBX.out⟩, ⟨HX.out⟩, ⟨HVA.out⟩, ⟨HVB.out⟩⟩
        · have HES := Lib.hid (show E = false by rw [← hE2]; simp only [c1, c2, c3, d1, d2, d3, Bool.and_false, Bool.false_and, Bool.true_and, Bool.and_true, Bool.or_false, Bool.false_or, Bool.or_true, Bool.true_or, Bool.or_self, Bool.and_self])
          clear hE2 hE
          go_wp2_with (first | ((with_reducible refine gate_dst (N := 12) rfl ?_); refine box_event ?hg (N := 12) ?hd (cs := #[.int .i64 0, .int .i64 0, .int .i64 0, .int .i64 0]) (t := 45) ?hr ?_; (case hd => rfl); (case hg => rfl); (case hr => first | (go_simp; done) | (go_simp; rfl)); intro gk hg_ w12 hbox hb; have HGK := Lib.hid (show w.heap.size ≤ gk by rw [hg_]; exact HB.out.size); have NK := Lib.hid (show gb ≠ gk ∧ gx ≠ gk ∧ ga ≠ gk ∧ gd ≠ gk from ⟨by rw [hg_]; exact Nat.ne_of_lt (hlt HBX.out), by rw [hg_]; exact Nat.ne_of_lt (hlt HX.out), by rw [hg_]; exact Nat.ne_of_lt (hlt HVA.out), by rw [hg_]; exact Nat.ne_of_lt (hlt HVB.out)⟩); clear h0 h1 h2 h3; have HB_ := Lib.hid (below_step HB.out hb); have HBX_ := Lib.hid (hep HBX.out hb); have HX_ := Lib.hid (hep HX.out hb); have HVA_ := Lib.hid (hep HVA.out hb); have HVB_ := Lib.hid (hep HVB.out hb); clear HB HBX HX HVA HVB; have HB := HB_; have HBX := HBX_; have HX := HX_; have HVA := HVA_; have HVB := HVB_; clear HB_ HBX_ HX_ HVA_ HVB_; have HK_ := Lib.hid hbox; clear hbox hb hg_) | ((with_reducible refine gate_store (t := 45) (p := 12) rfl ?_); refine wpList_put rfl rfl 45 _ _ rfl (off := 0) (cur := #[.int .i64 0, .int .i64 0, .int .i64 0, .int .i64 0]) HK_.out (by rfl) (.agg #[.int .i64 z.f0, .int .i64 z.f1, .int .i64 z.f2, .int .i64 z.f3]) (by rfl) [.int .i64 z.f0, .int .i64 z.f1, .int .i64 z.f2, .int .i64 z.f3] rfl (by kernel_rfl) (by simp) (four_ints' _ _ _ _) #[.int .i64 z.f0, .int .i64 z.f1, .int .i64 z.f2, .int .i64 z.f3] rfl ?_; intro w_ hs_ hg_; have HB_ := Lib.hid (bel_grown HB.out hg_ HGK.out HB.out.size); have HBX_ := Lib.hid (blk_grown HBX.out hg_ (fun h => by injection h with h; exact NK.out.1 h)); have HX_ := Lib.hid (blk_grown HX.out hg_ (fun h => by injection h with h; exact NK.out.2.1 h)); have HVA_ := Lib.hid (blk_grown HVA.out hg_ (fun h => by injection h with h; exact NK.out.2.2.1 h)); have HVB_ := Lib.hid (blk_grown HVB.out hg_ (fun h => by injection h with h; exact NK.out.2.2.2 h)); clear HB HBX HX HVA HVB; have HB := HB_; have HBX := HBX_; have HX := HX_; have HVA := HVA_; have HVB := HVB_; clear HB_ HBX_ HX_ HVA_ HVB_; clear HK_; have HZ := Lib.hid hs_; clear hs_ hg_; have lx := hlt HX.out; have la := hlt HVA.out; have ld := hlt HVB.out; have lz := hlt HZ.out; have cx0 := cel0 HX.out 0 _ rfl; have cx1 := cel0 HX.out 1 _ rfl; have cx2 := cel0 HX.out 2 _ rfl; have cx3 := cel0 HX.out 3 _ rfl; have cz0 := cel0 HZ.out 0 _ rfl; have cz1 := cel0 HZ.out 1 _ rfl; have cz2 := cel0 HZ.out 2 _ rfl; have cz3 := cel0 HZ.out 3 _ rfl; have ca1 := cel0 HVA.out 1 _ rfl; have cd1 := cel0 HVB.out 1 _ rfl))
          go_roundw
          case measure => first | (rw [q2]; exact lower hil) | (simp only [intOf]; omega)
          case rel => exact ⟨i + 1, hil, by first | rw [q2] | simp, ⟨by have h := HC2.out; rw [HES.out, Bool.false_or] at h; exact h⟩, ⟨HB.out⟩, ⟨HBX.out⟩, ⟨HX.out⟩, ⟨HVA.out⟩, ⟨HVB.out⟩⟩
        · have HES := Lib.hid (show E = false by rw [← hE2]; simp only [c1, c2, c3, d1, d2, d3, d4, Bool.and_false, Bool.false_and, Bool.true_and, Bool.and_true, Bool.or_false, Bool.false_or, Bool.or_true, Bool.true_or, Bool.or_self, Bool.and_self])
          clear hE2 hE
          go_wp2_with (first | ((with_reducible refine gate_dst (N := 12) rfl ?_); refine box_event ?hg (N := 12) ?hd (cs := #[.int .i64 0, .int .i64 0, .int .i64 0, .int .i64 0]) (t := 45) ?hr ?_; (case hd => rfl); (case hg => rfl); (case hr => first | (go_simp; done) | (go_simp; rfl)); intro gk hg_ w12 hbox hb; have HGK := Lib.hid (show w.heap.size ≤ gk by rw [hg_]; exact HB.out.size); have NK := Lib.hid (show gb ≠ gk ∧ gx ≠ gk ∧ ga ≠ gk ∧ gd ≠ gk from ⟨by rw [hg_]; exact Nat.ne_of_lt (hlt HBX.out), by rw [hg_]; exact Nat.ne_of_lt (hlt HX.out), by rw [hg_]; exact Nat.ne_of_lt (hlt HVA.out), by rw [hg_]; exact Nat.ne_of_lt (hlt HVB.out)⟩); clear h0 h1 h2 h3; have HB_ := Lib.hid (below_step HB.out hb); have HBX_ := Lib.hid (hep HBX.out hb); have HX_ := Lib.hid (hep HX.out hb); have HVA_ := Lib.hid (hep HVA.out hb); have HVB_ := Lib.hid (hep HVB.out hb); clear HB HBX HX HVA HVB; have HB := HB_; have HBX := HBX_; have HX := HX_; have HVA := HVA_; have HVB := HVB_; clear HB_ HBX_ HX_ HVA_ HVB_; have HK_ := Lib.hid hbox; clear hbox hb hg_) | ((with_reducible refine gate_store (t := 45) (p := 12) rfl ?_); refine wpList_put rfl rfl 45 _ _ rfl (off := 0) (cur := #[.int .i64 0, .int .i64 0, .int .i64 0, .int .i64 0]) HK_.out (by rfl) (.agg #[.int .i64 z.f0, .int .i64 z.f1, .int .i64 z.f2, .int .i64 z.f3]) (by rfl) [.int .i64 z.f0, .int .i64 z.f1, .int .i64 z.f2, .int .i64 z.f3] rfl (by kernel_rfl) (by simp) (four_ints' _ _ _ _) #[.int .i64 z.f0, .int .i64 z.f1, .int .i64 z.f2, .int .i64 z.f3] rfl ?_; intro w_ hs_ hg_; have HB_ := Lib.hid (bel_grown HB.out hg_ HGK.out HB.out.size); have HBX_ := Lib.hid (blk_grown HBX.out hg_ (fun h => by injection h with h; exact NK.out.1 h)); have HX_ := Lib.hid (blk_grown HX.out hg_ (fun h => by injection h with h; exact NK.out.2.1 h)); have HVA_ := Lib.hid (blk_grown HVA.out hg_ (fun h => by injection h with h; exact NK.out.2.2.1 h)); have HVB_ := Lib.hid (blk_grown HVB.out hg_ (fun h => by injection h with h; exact NK.out.2.2.2 h)); clear HB HBX HX HVA HVB; have HB := HB_; have HBX := HBX_; have HX := HX_; have HVA := HVA_; have HVB := HVB_; clear HB_ HBX_ HX_ HVA_ HVB_; clear HK_; have HZ := Lib.hid hs_; clear hs_ hg_; have lx := hlt HX.out; have la := hlt HVA.out; have ld := hlt HVB.out; have lz := hlt HZ.out; have cx0 := cel0 HX.out 0 _ rfl; have cx1 := cel0 HX.out 1 _ rfl; have cx2 := cel0 HX.out 2 _ rfl; have cx3 := cel0 HX.out 3 _ rfl; have cz0 := cel0 HZ.out 0 _ rfl; have cz1 := cel0 HZ.out 1 _ rfl; have cz2 := cel0 HZ.out 2 _ rfl; have cz3 := cel0 HZ.out 3 _ rfl; have ca1 := cel0 HVA.out 1 _ rfl; have cd1 := cel0 HVB.out 1 _ rfl))
          go_roundw
          case measure => first | (rw [q2]; exact lower hil) | (simp only [intOf]; omega)
          case rel => exact ⟨i + 1, hil, by first | rw [q2] | simp, ⟨by have h := HC2.out; rw [HES.out, Bool.false_or] at h; exact h⟩, ⟨HB.out⟩, ⟨HBX.out⟩, ⟨HX.out⟩, ⟨HVA.out⟩, ⟨HVB.out⟩⟩
        · have HES := Lib.hid (show E = true by rw [← hE2]; simp only [c1, c2, c3, d1, d2, d3, d4, Bool.and_false, Bool.false_and, Bool.true_and, Bool.and_true, Bool.or_false, Bool.false_or, Bool.or_true, Bool.true_or, Bool.or_self, Bool.and_self])
          clear hE2 hE
          go_wp2_with (first | ((with_reducible refine gate_dst (N := 12) rfl ?_); refine box_event ?hg (N := 12) ?hd (cs := #[.int .i64 0, .int .i64 0, .int .i64 0, .int .i64 0]) (t := 45) ?hr ?_; (case hd => rfl); (case hg => rfl); (case hr => first | (go_simp; done) | (go_simp; rfl)); intro gk hg_ w12 hbox hb; have HGK := Lib.hid (show w.heap.size ≤ gk by rw [hg_]; exact HB.out.size); have NK := Lib.hid (show gb ≠ gk ∧ gx ≠ gk ∧ ga ≠ gk ∧ gd ≠ gk from ⟨by rw [hg_]; exact Nat.ne_of_lt (hlt HBX.out), by rw [hg_]; exact Nat.ne_of_lt (hlt HX.out), by rw [hg_]; exact Nat.ne_of_lt (hlt HVA.out), by rw [hg_]; exact Nat.ne_of_lt (hlt HVB.out)⟩); clear h0 h1 h2 h3; have HB_ := Lib.hid (below_step HB.out hb); have HBX_ := Lib.hid (hep HBX.out hb); have HX_ := Lib.hid (hep HX.out hb); have HVA_ := Lib.hid (hep HVA.out hb); have HVB_ := Lib.hid (hep HVB.out hb); clear HB HBX HX HVA HVB; have HB := HB_; have HBX := HBX_; have HX := HX_; have HVA := HVA_; have HVB := HVB_; clear HB_ HBX_ HX_ HVA_ HVB_; have HK_ := Lib.hid hbox; clear hbox hb hg_) | ((with_reducible refine gate_store (t := 45) (p := 12) rfl ?_); refine wpList_put rfl rfl 45 _ _ rfl (off := 0) (cur := #[.int .i64 0, .int .i64 0, .int .i64 0, .int .i64 0]) HK_.out (by rfl) (.agg #[.int .i64 z.f0, .int .i64 z.f1, .int .i64 z.f2, .int .i64 z.f3]) (by rfl) [.int .i64 z.f0, .int .i64 z.f1, .int .i64 z.f2, .int .i64 z.f3] rfl (by kernel_rfl) (by simp) (four_ints' _ _ _ _) #[.int .i64 z.f0, .int .i64 z.f1, .int .i64 z.f2, .int .i64 z.f3] rfl ?_; intro w_ hs_ hg_; have HB_ := Lib.hid (bel_grown HB.out hg_ HGK.out HB.out.size); have HBX_ := Lib.hid (blk_grown HBX.out hg_ (fun h => by injection h with h; exact NK.out.1 h)); have HX_ := Lib.hid (blk_grown HX.out hg_ (fun h => by injection h with h; exact NK.out.2.1 h)); have HVA_ := Lib.hid (blk_grown HVA.out hg_ (fun h => by injection h with h; exact NK.out.2.2.1 h)); have HVB_ := Lib.hid (blk_grown HVB.out hg_ (fun h => by injection h with h; exact NK.out.2.2.2 h)); clear HB HBX HX HVA HVB; have HB := HB_; have HBX := HBX_; have HX := HX_; have HVA := HVA_; have HVB := HVB_; clear HB_ HBX_ HX_ HVA_ HVB_; clear HK_; have HZ := Lib.hid hs_; clear hs_ hg_; have lx := hlt HX.out; have la := hlt HVA.out; have ld := hlt HVB.out; have lz := hlt HZ.out; have cx0 := cel0 HX.out 0 _ rfl; have cx1 := cel0 HX.out 1 _ rfl; have cx2 := cel0 HX.out 2 _ rfl; have cx3 := cel0 HX.out 3 _ rfl; have cz0 := cel0 HZ.out 0 _ rfl; have cz1 := cel0 HZ.out 1 _ rfl; have cz2 := cel0 HZ.out 2 _ rfl; have cz3 := cel0 HZ.out 3 _ rfl; have ca1 := cel0 HVA.out 1 _ rfl; have cd1 := cel0 HVB.out 1 _ rfl))
          go_ret
          exact ⟨by have h := HC2.out; rw [HES.out, Bool.true_or] at h; rw [← h]; rfl, HB.out⟩
      · rcases ways5 (z.f0 == x.f0) (z.f1 == x.f1) (a1 != 5) (a1 != 1) with d1 | ⟨d1, d2⟩ | ⟨d1, d2, d3⟩ | ⟨d1, d2, d3, d4⟩ | ⟨d1, d2, d3, d4⟩
        · have HES := Lib.hid (show E = true by rw [← hE2]; simp only [c1, c2, c3, d1, Bool.and_false, Bool.false_and, Bool.true_and, Bool.and_true, Bool.or_false, Bool.false_or, Bool.or_true, Bool.true_or, Bool.or_self, Bool.and_self])
          clear hE2 hE
          go_wp2_with (first | ((with_reducible refine gate_dst (N := 12) rfl ?_); refine box_event ?hg (N := 12) ?hd (cs := #[.int .i64 0, .int .i64 0, .int .i64 0, .int .i64 0]) (t := 45) ?hr ?_; (case hd => rfl); (case hg => rfl); (case hr => first | (go_simp; done) | (go_simp; rfl)); intro gk hg_ w12 hbox hb; have HGK := Lib.hid (show w.heap.size ≤ gk by rw [hg_]; exact HB.out.size); have NK := Lib.hid (show gb ≠ gk ∧ gx ≠ gk ∧ ga ≠ gk ∧ gd ≠ gk from ⟨by rw [hg_]; exact Nat.ne_of_lt (hlt HBX.out), by rw [hg_]; exact Nat.ne_of_lt (hlt HX.out), by rw [hg_]; exact Nat.ne_of_lt (hlt HVA.out), by rw [hg_]; exact Nat.ne_of_lt (hlt HVB.out)⟩); clear h0 h1 h2 h3; have HB_ := Lib.hid (below_step HB.out hb); have HBX_ := Lib.hid (hep HBX.out hb); have HX_ := Lib.hid (hep HX.out hb); have HVA_ := Lib.hid (hep HVA.out hb); have HVB_ := Lib.hid (hep HVB.out hb); clear HB HBX HX HVA HVB; have HB := HB_; have HBX := HBX_; have HX := HX_; have HVA := HVA_; have HVB := HVB_; clear HB_ HBX_ HX_ HVA_ HVB_; have HK_ := Lib.hid hbox; clear hbox hb hg_) | ((with_reducible refine gate_store (t := 45) (p := 12) rfl ?_); refine wpList_put rfl rfl 45 _ _ rfl (off := 0) (cur := #[.int .i64 0, .int .i64 0, .int .i64 0, .int .i64 0]) HK_.out (by rfl) (.agg #[.int .i64 z.f0, .int .i64 z.f1, .int .i64 z.f2, .int .i64 z.f3]) (by rfl) [.int .i64 z.f0, .int .i64 z.f1, .int .i64 z.f2, .int .i64 z.f3] rfl (by kernel_rfl) (by simp) (four_ints' _ _ _ _) #[.int .i64 z.f0, .int .i64 z.f1, .int .i64 z.f2, .int .i64 z.f3] rfl ?_; intro w_ hs_ hg_; have HB_ := Lib.hid (bel_grown HB.out hg_ HGK.out HB.out.size); have HBX_ := Lib.hid (blk_grown HBX.out hg_ (fun h => by injection h with h; exact NK.out.1 h)); have HX_ := Lib.hid (blk_grown HX.out hg_ (fun h => by injection h with h; exact NK.out.2.1 h)); have HVA_ := Lib.hid (blk_grown HVA.out hg_ (fun h => by injection h with h; exact NK.out.2.2.1 h)); have HVB_ := Lib.hid (blk_grown HVB.out hg_ (fun h => by injection h with h; exact NK.out.2.2.2 h)); clear HB HBX HX HVA HVB; have HB := HB_; have HBX := HBX_; have HX := HX_; have HVA := HVA_; have HVB := HVB_; clear HB_ HBX_ HX_ HVA_ HVB_; clear HK_; have HZ := Lib.hid hs_; clear hs_ hg_; have lx := hlt HX.out; have la := hlt HVA.out; have ld := hlt HVB.out; have lz := hlt HZ.out; have cx0 := cel0 HX.out 0 _ rfl; have cx1 := cel0 HX.out 1 _ rfl; have cx2 := cel0 HX.out 2 _ rfl; have cx3 := cel0 HX.out 3 _ rfl; have cz0 := cel0 HZ.out 0 _ rfl; have cz1 := cel0 HZ.out 1 _ rfl; have cz2 := cel0 HZ.out 2 _ rfl; have cz3 := cel0 HZ.out 3 _ rfl; have ca1 := cel0 HVA.out 1 _ rfl; have cd1 := cel0 HVB.out 1 _ rfl))
          go_ret
          exact ⟨by have h := HC2.out; rw [HES.out, Bool.true_or] at h; rw [← h]; rfl, HB.out⟩
        · have HES := Lib.hid (show E = true by rw [← hE2]; simp only [c1, c2, c3, d1, d2, Bool.and_false, Bool.false_and, Bool.true_and, Bool.and_true, Bool.or_false, Bool.false_or, Bool.or_true, Bool.true_or, Bool.or_self, Bool.and_self])
          clear hE2 hE
          go_wp2_with (first | ((with_reducible refine gate_dst (N := 12) rfl ?_); refine box_event ?hg (N := 12) ?hd (cs := #[.int .i64 0, .int .i64 0, .int .i64 0, .int .i64 0]) (t := 45) ?hr ?_; (case hd => rfl); (case hg => rfl); (case hr => first | (go_simp; done) | (go_simp; rfl)); intro gk hg_ w12 hbox hb; have HGK := Lib.hid (show w.heap.size ≤ gk by rw [hg_]; exact HB.out.size); have NK := Lib.hid (show gb ≠ gk ∧ gx ≠ gk ∧ ga ≠ gk ∧ gd ≠ gk from ⟨by rw [hg_]; exact Nat.ne_of_lt (hlt HBX.out), by rw [hg_]; exact Nat.ne_of_lt (hlt HX.out), by rw [hg_]; exact Nat.ne_of_lt (hlt HVA.out), by rw [hg_]; exact Nat.ne_of_lt (hlt HVB.out)⟩); clear h0 h1 h2 h3; have HB_ := Lib.hid (below_step HB.out hb); have HBX_ := Lib.hid (hep HBX.out hb); have HX_ := Lib.hid (hep HX.out hb); have HVA_ := Lib.hid (hep HVA.out hb); have HVB_ := Lib.hid (hep HVB.out hb); clear HB HBX HX HVA HVB; have HB := HB_; have HBX := HBX_; have HX := HX_; have HVA := HVA_; have HVB := HVB_; clear HB_ HBX_ HX_ HVA_ HVB_; have HK_ := Lib.hid hbox; clear hbox hb hg_) | ((with_reducible refine gate_store (t := 45) (p := 12) rfl ?_); refine wpList_put rfl rfl 45 _ _ rfl (off := 0) (cur := #[.int .i64 0, .int .i64 0, .int .i64 0, .int .i64 0]) HK_.out (by rfl) (.agg #[.int .i64 z.f0, .int .i64 z.f1, .int .i64 z.f2, .int .i64 z.f3]) (by rfl) [.int .i64 z.f0, .int .i64 z.f1, .int .i64 z.f2, .int .i64 z.f3] rfl (by kernel_rfl) (by simp) (four_ints' _ _ _ _) #[.int .i64 z.f0, .int .i64 z.f1, .int .i64 z.f2, .int .i64 z.f3] rfl ?_; intro w_ hs_ hg_; have HB_ := Lib.hid (bel_grown HB.out hg_ HGK.out HB.out.size); have HBX_ := Lib.hid (blk_grown HBX.out hg_ (fun h => by injection h with h; exact NK.out.1 h)); have HX_ := Lib.hid (blk_grown HX.out hg_ (fun h => by injection h with h; exact NK.out.2.1 h)); have HVA_ := Lib.hid (blk_grown HVA.out hg_ (fun h => by injection h with h; exact NK.out.2.2.1 h)); have HVB_ := Lib.hid (blk_grown HVB.out hg_ (fun h => by injection h with h; exact NK.out.2.2.2 h)); clear HB HBX HX HVA HVB; have HB := HB_; have HBX := HBX_; have HX := HX_; have HVA := HVA_; have HVB := HVB_; clear HB_ HBX_ HX_ HVA_ HVB_; clear HK_; have HZ := Lib.hid hs_; clear hs_ hg_; have lx := hlt HX.out; have la := hlt HVA.out; have ld := hlt HVB.out; have lz := hlt HZ.out; have cx0 := cel0 HX.out 0 _ rfl; have cx1 := cel0 HX.out 1 _ rfl; have cx2 := cel0 HX.out 2 _ rfl; have cx3 := cel0 HX.out 3 _ rfl; have cz0 := cel0 HZ.out 0 _ rfl; have cz1 := cel0 HZ.out 1 _ rfl; have cz2 := cel0 HZ.out 2 _ rfl; have cz3 := cel0 HZ.out 3 _ rfl; have ca1 := cel0 HVA.out 1 _ rfl; have cd1 := cel0 HVB.out 1 _ rfl))
          go_ret
          exact ⟨by have h := HC2.out; rw [HES.out, Bool.true_or] at h; rw [← h]; rfl, HB.out⟩
        · have HES := Lib.hid (show E = true by rw [← hE2]; simp only [c1, c2, c3, d1, d2, d3, Bool.and_false, Bool.false_and, Bool.true_and, Bool.and_true, Bool.or_false, Bool.false_or, Bool.or_true, Bool.true_or, Bool.or_self, Bool.and_self])
          clear hE2 hE
          go_wp2_with (first | ((with_reducible refine gate_dst (N := 12) rfl ?_); refine box_event ?hg (N := 12) ?hd (cs := #[.int .i64 0, .int .i64 0, .int .i64 0, .int .i64 0]) (t := 45) ?hr ?_; (case hd => rfl); (case hg => rfl); (case hr => first | (go_simp; done) | (go_simp; rfl)); intro gk hg_ w12 hbox hb; have HGK := Lib.hid (show w.heap.size ≤ gk by rw [hg_]; exact HB.out.size); have NK := Lib.hid (show gb ≠ gk ∧ gx ≠ gk ∧ ga ≠ gk ∧ gd ≠ gk from ⟨by rw [hg_]; exact Nat.ne_of_lt (hlt HBX.out), by rw [hg_]; exact Nat.ne_of_lt (hlt HX.out), by rw [hg_]; exact Nat.ne_of_lt (hlt HVA.out), by rw [hg_]; exact Nat.ne_of_lt (hlt HVB.out)⟩); clear h0 h1 h2 h3; have HB_ := Lib.hid (below_step HB.out hb); have HBX_ := Lib.hid (hep HBX.out hb); have HX_ := Lib.hid (hep HX.out hb); have HVA_ := Lib.hid (hep HVA.out hb); have HVB_ := Lib.hid (hep HVB.out hb); clear HB HBX HX HVA HVB; have HB := HB_; have HBX := HBX_; have HX := HX_; have HVA := HVA_; have HVB := HVB_; clear HB_ HBX_ HX_ HVA_ HVB_; have HK_ := Lib.hid hbox; clear hbox hb hg_) | ((with_reducible refine gate_store (t := 45) (p := 12) rfl ?_); refine wpList_put rfl rfl 45 _ _ rfl (off := 0) (cur := #[.int .i64 0, .int .i64 0, .int .i64 0, .int .i64 0]) HK_.out (by rfl) (.agg #[.int .i64 z.f0, .int .i64 z.f1, .int .i64 z.f2, .int .i64 z.f3]) (by rfl) [.int .i64 z.f0, .int .i64 z.f1, .int .i64 z.f2, .int .i64 z.f3] rfl (by kernel_rfl) (by simp) (four_ints' _ _ _ _) #[.int .i64 z.f0, .int .i64 z.f1, .int .i64 z.f2, .int .i64 z.f3] rfl ?_; intro w_ hs_ hg_; have HB_ := Lib.hid (bel_grown HB.out hg_ HGK.out HB.out.size); have HBX_ := Lib.hid (blk_grown HBX.out hg_ (fun h => by injection h with h; exact NK.out.1 h)); have HX_ := Lib.hid (blk_grown HX.out hg_ (fun h => by injection h with h; exact NK.out.2.1 h)); have HVA_ := Lib.hid (blk_grown HVA.out hg_ (fun h => by injection h with h; exact NK.out.2.2.1 h)); have HVB_ := Lib.hid (blk_grown HVB.out hg_ (fun h => by injection h with h; exact NK.out.2.2.2 h)); clear HB HBX HX HVA HVB; have HB := HB_; have HBX := HBX_; have HX := HX_; have HVA := HVA_; have HVB := HVB_; clear HB_ HBX_ HX_ HVA_ HVB_; clear HK_; have HZ := Lib.hid hs_; clear hs_ hg_; have lx := hlt HX.out; have la := hlt HVA.out; have ld := hlt HVB.out; have lz := hlt HZ.out; have cx0 := cel0 HX.out 0 _ rfl; have cx1 := cel0 HX.out 1 _ rfl; have cx2 := cel0 HX.out 2 _ rfl; have cx3 := cel0 HX.out 3 _ rfl; have cz0 := cel0 HZ.out 0 _ rfl; have cz1 := cel0 HZ.out 1 _ rfl; have cz2 := cel0 HZ.out 2 _ rfl; have cz3 := cel0 HZ.out 3 _ rfl; have ca1 := cel0 HVA.out 1 _ rfl; have cd1 := cel0 HVB.out 1 _ rfl))
          go_ret
          exact ⟨by have h := HC2.out; rw [HES.out, Bool.true_or] at h; rw [← h]; rfl, HB.out⟩
        · have HES := Lib.hid (show E = true by rw [← hE2]; simp only [c1, c2, c3, d1, d2, d3, d4, Bool.and_false, Bool.false_and, Bool.true_and, Bool.and_true, Bool.or_false, Bool.false_or, Bool.or_true, Bool.true_or, Bool.or_self, Bool.and_self])
          clear hE2 hE
          go_wp2_with (first | ((with_reducible refine gate_dst (N := 12) rfl ?_); refine box_event ?hg (N := 12) ?hd (cs := #[.int .i64 0, .int .i64 0, .int .i64 0, .int .i64 0]) (t := 45) ?hr ?_; (case hd => rfl); (case hg => rfl); (case hr => first | (go_simp; done) | (go_simp; rfl)); intro gk hg_ w12 hbox hb; have HGK := Lib.hid (show w.heap.size ≤ gk by rw [hg_]; exact HB.out.size); have NK := Lib.hid (show gb ≠ gk ∧ gx ≠ gk ∧ ga ≠ gk ∧ gd ≠ gk from ⟨by rw [hg_]; exact Nat.ne_of_lt (hlt HBX.out), by rw [hg_]; exact Nat.ne_of_lt (hlt HX.out), by rw [hg_]; exact Nat.ne_of_lt (hlt HVA.out), by rw [hg_]; exact Nat.ne_of_lt (hlt HVB.out)⟩); clear h0 h1 h2 h3; have HB_ := Lib.hid (below_step HB.out hb); have HBX_ := Lib.hid (hep HBX.out hb); have HX_ := Lib.hid (hep HX.out hb); have HVA_ := Lib.hid (hep HVA.out hb); have HVB_ := Lib.hid (hep HVB.out hb); clear HB HBX HX HVA HVB; have HB := HB_; have HBX := HBX_; have HX := HX_; have HVA := HVA_; have HVB := HVB_; clear HB_ HBX_ HX_ HVA_ HVB_; have HK_ := Lib.hid hbox; clear hbox hb hg_) | ((with_reducible refine gate_store (t := 45) (p := 12) rfl ?_); refine wpList_put rfl rfl 45 _ _ rfl (off := 0) (cur := #[.int .i64 0, .int .i64 0, .int .i64 0, .int .i64 0]) HK_.out (by rfl) (.agg #[.int .i64 z.f0, .int .i64 z.f1, .int .i64 z.f2, .int .i64 z.f3]) (by rfl) [.int .i64 z.f0, .int .i64 z.f1, .int .i64 z.f2, .int .i64 z.f3] rfl (by kernel_rfl) (by simp) (four_ints' _ _ _ _) #[.int .i64 z.f0, .int .i64 z.f1, .int .i64 z.f2, .int .i64 z.f3] rfl ?_; intro w_ hs_ hg_; have HB_ := Lib.hid (bel_grown HB.out hg_ HGK.out HB.out.size); have HBX_ := Lib.hid (blk_grown HBX.out hg_ (fun h => by injection h with h; exact NK.out.1 h)); have HX_ := Lib.hid (blk_grown HX.out hg_ (fun h => by injection h with h; exact NK.out.2.1 h)); have HVA_ := Lib.hid (blk_grown HVA.out hg_ (fun h => by injection h with h; exact NK.out.2.2.1 h)); have HVB_ := Lib.hid (blk_grown HVB.out hg_ (fun h => by injection h with h; exact NK.out.2.2.2 h)); clear HB HBX HX HVA HVB; have HB := HB_; have HBX := HBX_; have HX := HX_; have HVA := HVA_; have HVB := HVB_; clear HB_ HBX_ HX_ HVA_ HVB_; clear HK_; have HZ := Lib.hid hs_; clear hs_ hg_; have lx := hlt HX.out; have la := hlt HVA.out; have ld := hlt HVB.out; have lz := hlt HZ.out; have cx0 := cel0 HX.out 0 _ rfl; have cx1 := cel0 HX.out 1 _ rfl; have cx2 := cel0 HX.out 2 _ rfl; have cx3 := cel0 HX.out 3 _ rfl; have cz0 := cel0 HZ.out 0 _ rfl; have cz1 := cel0 HZ.out 1 _ rfl; have cz2 := cel0 HZ.out 2 _ rfl; have cz3 := cel0 HZ.out 3 _ rfl; have ca1 := cel0 HVA.out 1 _ rfl; have cd1 := cel0 HVB.out 1 _ rfl))
          go_ret
          exact ⟨by have h := HC2.out; rw [HES.out, Bool.true_or] at h; rw [← h]; rfl, HB.out⟩
        · have HES := Lib.hid (show E = true by rw [← hE2]; simp only [c1, c2, c3, d1, d2, d3, d4, Bool.and_false, Bool.false_and, Bool.true_and, Bool.and_true, Bool.or_false, Bool.false_or, Bool.or_true, Bool.true_or, Bool.or_self, Bool.and_self])
          clear hE2 hE
          go_wp2_with (first | ((with_reducible refine gate_dst (N := 12) rfl ?_); refine box_event ?hg (N := 12) ?hd (cs := #[.int .i64 0, .int .i64 0, .int .i64 0, .int .i64 0]) (t := 45) ?hr ?_; (case hd => rfl); (case hg => rfl); (case hr => first | (go_simp; done) | (go_simp; rfl)); intro gk hg_ w12 hbox hb; have HGK := Lib.hid (show w.heap.size ≤ gk by rw [hg_]; exact HB.out.size); have NK := Lib.hid (show gb ≠ gk ∧ gx ≠ gk ∧ ga ≠ gk ∧ gd ≠ gk from ⟨by rw [hg_]; exact Nat.ne_of_lt (hlt HBX.out), by rw [hg_]; exact Nat.ne_of_lt (hlt HX.out), by rw [hg_]; exact Nat.ne_of_lt (hlt HVA.out), by rw [hg_]; exact Nat.ne_of_lt (hlt HVB.out)⟩); clear h0 h1 h2 h3; have HB_ := Lib.hid (below_step HB.out hb); have HBX_ := Lib.hid (hep HBX.out hb); have HX_ := Lib.hid (hep HX.out hb); have HVA_ := Lib.hid (hep HVA.out hb); have HVB_ := Lib.hid (hep HVB.out hb); clear HB HBX HX HVA HVB; have HB := HB_; have HBX := HBX_; have HX := HX_; have HVA := HVA_; have HVB := HVB_; clear HB_ HBX_ HX_ HVA_ HVB_; have HK_ := Lib.hid hbox; clear hbox hb hg_) | ((with_reducible refine gate_store (t := 45) (p := 12) rfl ?_); refine wpList_put rfl rfl 45 _ _ rfl (off := 0) (cur := #[.int .i64 0, .int .i64 0, .int .i64 0, .int .i64 0]) HK_.out (by rfl) (.agg #[.int .i64 z.f0, .int .i64 z.f1, .int .i64 z.f2, .int .i64 z.f3]) (by rfl) [.int .i64 z.f0, .int .i64 z.f1, .int .i64 z.f2, .int .i64 z.f3] rfl (by kernel_rfl) (by simp) (four_ints' _ _ _ _) #[.int .i64 z.f0, .int .i64 z.f1, .int .i64 z.f2, .int .i64 z.f3] rfl ?_; intro w_ hs_ hg_; have HB_ := Lib.hid (bel_grown HB.out hg_ HGK.out HB.out.size); have HBX_ := Lib.hid (blk_grown HBX.out hg_ (fun h => by injection h with h; exact NK.out.1 h)); have HX_ := Lib.hid (blk_grown HX.out hg_ (fun h => by injection h with h; exact NK.out.2.1 h)); have HVA_ := Lib.hid (blk_grown HVA.out hg_ (fun h => by injection h with h; exact NK.out.2.2.1 h)); have HVB_ := Lib.hid (blk_grown HVB.out hg_ (fun h => by injection h with h; exact NK.out.2.2.2 h)); clear HB HBX HX HVA HVB; have HB := HB_; have HBX := HBX_; have HX := HX_; have HVA := HVA_; have HVB := HVB_; clear HB_ HBX_ HX_ HVA_ HVB_; clear HK_; have HZ := Lib.hid hs_; clear hs_ hg_; have lx := hlt HX.out; have la := hlt HVA.out; have ld := hlt HVB.out; have lz := hlt HZ.out; have cx0 := cel0 HX.out 0 _ rfl; have cx1 := cel0 HX.out 1 _ rfl; have cx2 := cel0 HX.out 2 _ rfl; have cx3 := cel0 HX.out 3 _ rfl; have cz0 := cel0 HZ.out 0 _ rfl; have cz1 := cel0 HZ.out 1 _ rfl; have cz2 := cel0 HZ.out 2 _ rfl; have cz3 := cel0 HZ.out 3 _ rfl; have ca1 := cel0 HVA.out 1 _ rfl; have cd1 := cel0 HVB.out 1 _ rfl))
          go_ret
          exact ⟨by have h := HC2.out; rw [HES.out, Bool.true_or] at h; rw [← h]; rfl, HB.out⟩
    · obtain rfl : i = os.length := by omega
      have hR0 : false = R := by have h := hC.out; rw [List.drop_length] at h; exact h
      have HR0 := Lib.hid hR0
      clear hR0
      go_wp2
      go_ret
      exact ⟨by rw [← HR0.out]; rfl, hB.out⟩
theorem crowd_calls (A : Option Addr) (c : Nat) (ns : List Nd) (A2 : Option Addr) (c2 : Nat) (ls : List Lk) (x : Lk) (A3 : Option Addr) (c3 : Nat) (os : List Lk) (w : World) (hr : Rd kN w A c ns) (hr2 : Rd kL w A2 c2 ls) (hr3 : Rd kL w A3 c3 os) (hn : ns.length ≤ 1000000) (ho : os.length ≤ 1000000) :
    Calls Try.prog 47 #[.agg #[.slice A ns.length c, .slice A2 ls.length c2], .agg #[.int .i64 x.f0, .int .i64 x.f1, .int .i64 x.f2, .int .i64 x.f3], .slice A3 os.length c3] w fun e w' => e = .returned (.bool (os.any fun k => crB ns k x)) ∧ Below w.heap.size w w' :=
  crowd_in A c ns A2 c2 ls x w _ _ _ _ _ _ _ _ _ _ A3 c3 os (Lib.hid hr3) (Lib.hid ho) (Lib.hid fun W hb => rnode_calls A c ns A2 c2 ls x.f0 W (hr.below hb) (hr2.below hb) hn) (Lib.hid fun W hb => rnode_calls A c ns A2 c2 ls x.f2 W (hr.below hb) (hr2.below hb) hn)
end Go.Proofs.YtcbpghpfdjfddaaG
-- Declarations of the text that this claim uses (slim.py, a program of this session).
namespace Go.Proofs.YtcbpghpfdjfddaaG
open Go Go.RowKit Go.Proofs.YtcbpghpfdjfddaaMp Go.Proofs.Ytcbpghpfdjfddaa.Q Go.Proofs.YtcbpghpfdjfddaaW.PrintWords Go.Proofs.YtcbpghpfdjfddaaW.PrintLast Go.Proofs.YtcbpghpfdjfddaaW.PrintMore
set_option linter.unusedVariables false
set_option linter.unusedSimpArgs false
theorem fits_f (n : Nd) : soundserviceref22_fits.f 5 n.f0 n.f1 n.f2 n.f3 = some (fineB n) := by
  unfold soundserviceref22_fits.f fineB
  simp only [soundserviceref22_fits.j0]
  by_cases h1 : n.f0 < 1
  · rw [if_pos h1, decide_eq_false (show ¬ 1 ≤ n.f0 by omega)]; simp
  · rw [if_neg h1, decide_eq_true (show 1 ≤ n.f0 by omega)]
    by_cases h2 : n.f0 > 2147483647
    · rw [decide_eq_true h2, decide_eq_false (show ¬ n.f0 ≤ 2147483647 by omega)]; simp
    · rw [decide_eq_false h2, decide_eq_true (show n.f0 ≤ 2147483647 by omega)]
      simp only [Bool.false_eq_true, if_false, Bool.true_and, Bool.and_self]
      repeat' split
      all_goals simp_all
      all_goals first | (rw [Bool.eq_iff_iff]; simp; done) | omega | (intros; omega)
theorem fits_calls (n : Nd) (w : World) : Calls Try.prog 44 #[.agg #[.int .i64 n.f0, .int .i64 n.f1, .int .i64 n.f2, .int .i64 n.f3]] w fun e w' => e = .returned (.bool (fineB n)) ∧ Below w.heap.size w w' :=
  soundserviceref22_fits.calls 5 n.f0 n.f1 n.f2 n.f3 _ w (fits_f n)
theorem cmpI_neg (a b : Int) : cmpI a b < 0 ↔ a < b := by
  unfold cmpI
  repeat' split
  all_goals omega
theorem cmpI_zero (a b : Int) : cmpI a b = 0 ↔ a = b := by
  unfold cmpI
  repeat' split
  all_goals omega
theorem orI_neg (a b : Int) : orI a b < 0 ↔ (a < 0 ∨ a = 0 ∧ b < 0) := by
  unfold orI
  split <;> omega
theorem orI_zero (a b : Int) : orI a b = 0 ↔ (a = 0 ∧ b = 0) := by
  unfold orI
  split <;> omega
theorem cmpL_neg (a b : Lk) : cmpL a b < 0 ↔ (a.f0 < b.f0 ∨ a.f0 = b.f0 ∧ (a.f1 < b.f1 ∨ a.f1 = b.f1 ∧ (a.f2 < b.f2 ∨ a.f2 = b.f2 ∧ a.f3 < b.f3))) := by
  unfold cmpL
  simp only [orI_neg, cmpI_neg, cmpI_zero]
theorem cmpL_zero (a b : Lk) : cmpL a b = 0 ↔ (a.f0 = b.f0 ∧ a.f1 = b.f1 ∧ a.f2 = b.f2 ∧ a.f3 = b.f3) := by
  unfold cmpL
  simp only [orI_zero, cmpI_zero]
theorem less_f (a b : Lk) : soundserviceref22_less.f a.f0 a.f1 a.f2 a.f3 b.f0 b.f1 b.f2 b.f3 = some (decide (cmpL a b < 0)) := by
  unfold soundserviceref22_less.f
  have e : ∀ p : Prop, [Decidable p] → (cmpL a b < 0 ↔ p) → decide (cmpL a b < 0) = decide p := fun p _ h => by rw [Bool.eq_iff_iff, decide_eq_true_eq, decide_eq_true_eq]; exact h
  have hc := cmpL_neg a b
  by_cases h0 : a.f0 = b.f0
  · rw [if_pos h0]
    by_cases h1 : a.f1 = b.f1
    · rw [if_pos h1]
      by_cases h2 : a.f2 = b.f2
      · rw [if_pos h2, e (a.f3 < b.f3) (by omega)]
      · rw [if_neg h2, e (a.f2 < b.f2) (by omega)]
    · rw [if_neg h1, e (a.f1 < b.f1) (by omega)]
  · rw [if_neg h0, e (a.f0 < b.f0) (by omega)]
theorem less_calls (a b : Lk) (w : World) : Calls Try.prog 46 #[.agg #[.int .i64 a.f0, .int .i64 a.f1, .int .i64 a.f2, .int .i64 a.f3], .agg #[.int .i64 b.f0, .int .i64 b.f1, .int .i64 b.f2, .int .i64 b.f3]] w fun e w' => e = .returned (.bool (decide (cmpL a b < 0))) ∧ Below w.heap.size w w' :=
  soundserviceref22_less.calls _ _ _ _ _ _ _ _ _ w (less_f a b)
theorem in_l0 (l : List Int) (x : Int) (hn : l.length ≤ 1000000) : ∀ (k i : Nat), i ≤ l.length → l.length - i < k → soundserviceref22_in.l0 k x l (l.length : Int) (i : Int) = some ((l.drop i).contains x)
  | 0, i, _, h => by omega
  | k + 1, i, hi, h => by
    unfold soundserviceref22_in.l0
    by_cases hil : i < l.length
    · rw [if_pos (by omega), if_pos (by omega), if_pos (by omega)]
      have hr : rd l (i : Int) = l[i] := by unfold rd; rw [Int.toNat_natCast]; simp [hil]
      rw [hr, List.drop_eq_getElem_cons hil, List.contains_cons]
      by_cases he : l[i] = x
      · rw [if_pos he, he]; simp
      · rw [if_neg he, show wrap64 ((i : Int) + 1) = ((i + 1 : Nat) : Int) by unfold wrap64; omega, in_l0 l x hn k (i + 1) hil (by omega), beq_eq_false_iff_ne.2 (fun e => he e.symm)]
        rfl
    · obtain rfl : i = l.length := by omega
      rw [if_neg (by omega), List.drop_length]
      rfl
theorem in_f (l : List Int) (x : Int) (k : Nat) (hk : l.length < k) (hn : l.length ≤ 1000000) : soundserviceref22_in.f k l x = some (l.contains x) := by
  unfold soundserviceref22_in.f
  rw [show (0 : Int) = ((0 : Nat) : Int) from rfl, in_l0 l x hn k 0 (Nat.zero_le _) (by omega), List.drop_zero]
end Go.Proofs.YtcbpghpfdjfddaaG
-- Declarations of the text that this claim uses (slim.py, a program of this session).
namespace Go.Proofs.YtcbpghpfdjfddaaG
open Go Go.RowKit Go.Proofs.YtcbpghpfdjfddaaMp Go.Proofs.Ytcbpghpfdjfddaa.Q Go.Proofs.YtcbpghpfdjfddaaW.PrintWords
set_option linter.unusedVariables false
def frL (out : List Int) (id : Int) : List Lk → Bool → Bool
  | [], b => b
  | l :: r, b => frL out id r (b && (decide (l.f2 ≠ id) || out.contains l.f0))
def nxt (ls : List Lk) (out : List Int) : List Nd → Int → Int
  | [], x => x
  | n :: r, x => nxt ls out r (if frL out n.f0 ls (!out.contains n.f0) = true then (if x = 0 then n.f0 else x) else x)
def rord (ns : List Nd) (ls : List Lk) : Nat → List Int → List Int
  | 0, out => out
  | k + 1, out => if nxt ls out ns 0 = 0 then out else rord ns ls k (out ++ [nxt ls out ns 0])
theorem l2_ex (ns : List Nd) (ls : List Lk) (out : List Int) (nx : Int) (i : Nat) (id : Int) (g1 g2 g3 : Int) (r : List Int) (hl : ls.length ≤ 1000000) (ho : out.length ≤ 1000000) (hi : i < ns.length) (hn : ns.length ≤ 1000000)
    : ∀ (m j : Nat) (b : Bool), j ≤ ls.length → ls.length - j = m → (∃ k, soundserviceref22_order.l1 k out (if frL out id (ls.drop j) b = true then (if nx = 0 then id else nx) else nx) ns (ns.length : Int) ((i + 1 : Nat) : Int) ns ls = some r) →
      ∃ k, soundserviceref22_order.l2 k out nx b ns (ns.length : Int) (i : Int) ls (ls.length : Int) (j : Int) ns ls id g1 g2 g3 = some r
  | 0, j, b, hj, hm, ⟨k, hk⟩ => by
    obtain rfl : j = ls.length := by omega
    refine ⟨k + 1, ?_⟩
    unfold soundserviceref22_order.l2
    rw [if_neg (by omega), show wrap64 ((i : Int) + 1) = ((i + 1 : Nat) : Int) by unfold wrap64; omega]
    rw [List.drop_length, show frL out id [] b = b from rfl] at hk
    cases b
    · rw [if_neg (by simp)] at hk ⊢
      exact hk
    · rw [if_pos rfl] at hk ⊢
      by_cases h0 : nx = 0
      · rw [if_pos h0] at hk ⊢; exact hk
      · rw [if_neg h0] at hk ⊢; exact hk
  | m + 1, j, b, hj, hm, hk => by
    have hjl : j < ls.length := by omega
    have hw : wrap64 ((j : Int) + 1) = ((j + 1 : Nat) : Int) := by unfold wrap64; omega
    have hr : rd_T45 ls (j : Int) = ls[j] := by unfold rd_T45; simp [hjl]
    rw [List.drop_eq_getElem_cons hjl, show frL out id (ls[j] :: ls.drop (j + 1)) b = frL out id (ls.drop (j + 1)) (b && (decide (ls[j].f2 ≠ id) || out.contains ls[j].f0)) from rfl] at hk
    obtain ⟨k, hk2⟩ := l2_ex ns ls out nx i id g1 g2 g3 r hl ho hi hn m (j + 1) _ hjl (by omega) hk
    refine ⟨(k + out.length + 1) + 1, ?_⟩
    unfold soundserviceref22_order.l2
    rw [if_pos (by omega), if_pos (by omega), if_pos (by omega), hr, hw]
    have up : ∀ b', soundserviceref22_order.l2 k out nx b' ns (ns.length : Int) (i : Int) ls (ls.length : Int) ((j + 1 : Nat) : Int) ns ls id g1 g2 g3 = some r → soundserviceref22_order.l2 (k + out.length + 1) out nx b' ns (ns.length : Int) (i : Int) ls (ls.length : Int) ((j + 1 : Nat) : Int) ns ls id g1 g2 g3 = some r := fun b' h => by
      have hmono : ∀ d, soundserviceref22_order.l2 (k + d) out nx b' ns (ns.length : Int) (i : Int) ls (ls.length : Int) ((j + 1 : Nat) : Int) ns ls id g1 g2 g3 = some r := fun d => by
        induction d with
        | zero => exact h
        | succ d ih => exact (soundserviceref22_order.mono_l (k + d)).2.2 _ _ _ _ _ _ _ _ _ _ _ _ _ _ _ r ih
      exact hmono (out.length + 1)
    cases b
    · rw [if_neg (by simp)]
      exact up _ hk2
    · rw [if_pos rfl]
      by_cases he : ls[j].f2 = id
      · rw [if_pos he, in_f out ls[j].f0 _ (by omega) ho, Option.bind_some]
        rw [decide_eq_false (show ¬ ls[j].f2 ≠ id from fun h => h he), Bool.false_or, Bool.true_and] at hk2
        exact up _ hk2
      · rw [if_neg he]
        rw [decide_eq_true (show ls[j].f2 ≠ id from he), Bool.true_or, Bool.and_self] at hk2
        exact up _ hk2
theorem nxt_cons (ls : List Lk) (out : List Int) (n : Nd) (r : List Nd) (x : Int) : nxt ls out (n :: r) x = nxt ls out r (if frL out n.f0 ls (!out.contains n.f0) = true then (if x = 0 then n.f0 else x) else x) := rfl
theorem l1_ex (ns : List Nd) (ls : List Lk) (out : List Int) (r : List Int) (hl : ls.length ≤ 1000000) (ho : out.length ≤ 1000000) (hn : ns.length ≤ 1000000)
    : ∀ (m i : Nat) (nx : Int), i ≤ ns.length → ns.length - i = m → (∃ k, (if nxt ls out (ns.drop i) nx = 0 then some out else soundserviceref22_order.l0 k (out ++ [nxt ls out (ns.drop i) nx]) ns ls) = some r) →
      ∃ k, soundserviceref22_order.l1 k out nx ns (ns.length : Int) (i : Int) ns ls = some r
  | 0, i, nx, hi, hm, ⟨k, hk⟩ => by
    obtain rfl : i = ns.length := by omega
    refine ⟨k + 1, ?_⟩
    unfold soundserviceref22_order.l1
    rw [if_neg (by omega)]
    rw [List.drop_length, show nxt ls out [] nx = nx from rfl] at hk
    by_cases h0 : nx = 0
    · rw [if_pos h0] at hk ⊢; exact hk
    · rw [if_neg h0] at hk ⊢
      rw [if_pos (by omega)]
      exact hk
  | m + 1, i, nx, hi, hm, hk => by
    have hil : i < ns.length := by omega
    have hr : rd_T43 ns (i : Int) = ns[i] := by unfold rd_T43; simp [hil]
    rw [List.drop_eq_getElem_cons hil, nxt_cons] at hk
    have h1 := l1_ex ns ls out r hl ho hn m (i + 1) _ hil (by omega) hk
    obtain ⟨k, hk2⟩ := l2_ex ns ls out nx i ns[i].f0 ns[i].f1 ns[i].f2 ns[i].f3 r hl ho hil hn ls.length 0 (!out.contains ns[i].f0) (Nat.zero_le _) (by omega) (by rw [List.drop_zero]; exact h1)
    have hmono : ∀ d, soundserviceref22_order.l2 (k + d) out nx (!out.contains ns[i].f0) ns (ns.length : Int) (i : Int) ls (ls.length : Int) ((0 : Nat) : Int) ns ls ns[i].f0 ns[i].f1 ns[i].f2 ns[i].f3 = some r := fun d => by
      induction d with
      | zero => exact hk2
      | succ d ih => exact (soundserviceref22_order.mono_l (k + d)).2.2 _ _ _ _ _ _ _ _ _ _ _ _ _ _ _ r ih
    refine ⟨(k + (out.length + 1)) + 1, ?_⟩
    unfold soundserviceref22_order.l1
    rw [if_pos (by omega), if_pos (by omega), if_pos (by omega), hr, in_f out ns[i].f0 _ (by omega) ho, Option.bind_some]
    exact hmono (out.length + 1)
theorem l0_ex (ns : List Nd) (ls : List Lk) (hl : ls.length ≤ 1000000) (hn : ns.length ≤ 1000000) : ∀ (m : Nat) (out : List Int), out.length + m ≤ 1000000 → nxt ls (rord ns ls m out) ns 0 = 0 → ∃ k, soundserviceref22_order.l0 k out ns ls = some (rord ns ls m out)
  | 0, out, hm, h0 => by
    obtain ⟨k, hk⟩ := l1_ex ns ls out (rord ns ls 0 out) hl (by omega) hn ns.length 0 0 (Nat.zero_le _) (by omega) ⟨0, by rw [List.drop_zero, if_pos (show nxt ls out ns 0 = 0 from h0)]; rfl⟩
    exact ⟨k + 1, by unfold soundserviceref22_order.l0; exact hk⟩
  | m + 1, out, hm, h0 => by
    by_cases hx : nxt ls out ns 0 = 0
    · have e : rord ns ls (m + 1) out = out := by unfold rord; rw [if_pos hx]
      rw [e]
      obtain ⟨k, hk⟩ := l1_ex ns ls out out hl (by omega) hn ns.length 0 0 (Nat.zero_le _) (by omega) ⟨0, by rw [List.drop_zero, if_pos hx]⟩
      exact ⟨k + 1, by unfold soundserviceref22_order.l0; exact hk⟩
    · have e : rord ns ls (m + 1) out = rord ns ls m (out ++ [nxt ls out ns 0]) := by rw [rord, if_neg hx]
      rw [e] at h0 ⊢
      obtain ⟨k0, h1⟩ := l0_ex ns ls hl hn m (out ++ [nxt ls out ns 0]) (by rw [List.length_append, List.length_singleton]; omega) h0
      obtain ⟨k, hk⟩ := l1_ex ns ls out _ hl (by omega) hn ns.length 0 0 (Nat.zero_le _) (by omega) ⟨k0, by rw [List.drop_zero, if_neg hx]; exact h1⟩
      exact ⟨k + 1, by unfold soundserviceref22_order.l0; exact hk⟩
theorem frL_false (out : List Int) (id : Int) : ∀ l : List Lk, frL out id l false = false
  | [] => rfl
  | l :: r => by
    show frL out id r (false && _) = false
    rw [Bool.false_and]
    exact frL_false out id r
theorem nxt_mem (ls : List Lk) (out : List Int) : ∀ (ns : List Nd) (x : Int), nxt ls out ns x = x ∨ ∃ n ∈ ns, nxt ls out ns x = n.f0 ∧ out.contains n.f0 = false
  | [], x => .inl rfl
  | n :: r, x => by
    rw [nxt_cons]
    rcases nxt_mem ls out r (if frL out n.f0 ls (!out.contains n.f0) = true then (if x = 0 then n.f0 else x) else x) with h | ⟨m, hm, h⟩
    · rw [h]
      cases hc : out.contains n.f0
      · split
        · split
          · exact .inr ⟨n, List.mem_cons_self, rfl, hc⟩
          · exact .inl rfl
        · exact .inl rfl
      · rw [show (!true) = false from rfl, frL_false, if_neg (by simp)]
        exact .inl rfl
    · exact .inr ⟨m, List.mem_cons_of_mem _ hm, h⟩
theorem filter_le {α : Type} (p q : α → Bool) (h : ∀ x, p x = true → q x = true) : ∀ l : List α, (l.filter p).length ≤ (l.filter q).length
  | [] => Nat.le_refl _
  | x :: r => by
    have ih := filter_le p q h r
    rw [List.filter_cons, List.filter_cons]
    cases hp : p x
    · rw [if_neg (by simp)]
      split
      · exact Nat.le_succ_of_le ih
      · exact ih
    · rw [if_pos rfl, h x hp, if_pos rfl]
      exact Nat.succ_le_succ ih
theorem filter_lt {α : Type} (p q : α → Bool) (h : ∀ x, p x = true → q x = true) : ∀ l : List α, (∃ x ∈ l, q x = true ∧ p x = false) → (l.filter p).length < (l.filter q).length
  | [], ⟨_, hx, _⟩ => (List.not_mem_nil hx).elim
  | y :: r, ⟨x, hx, hq, hp⟩ => by
    rw [List.filter_cons, List.filter_cons]
    rcases List.mem_cons.1 hx with rfl | hx
    · rw [hp, if_neg (by simp), hq, if_pos rfl]
      exact Nat.lt_succ_of_le (filter_le p q h r)
    · have ih := filter_lt p q h r ⟨x, hx, hq, hp⟩
      cases hpy : p y
      · rw [if_neg (by simp)]
        split
        · exact Nat.lt_succ_of_lt ih
        · exact ih
      · rw [if_pos rfl, h y hpy, if_pos rfl]
        exact Nat.succ_lt_succ ih
def left (ns : List Nd) (out : List Int) : Nat := (ns.filter fun n => !out.contains n.f0).length
theorem left_lt (ns : List Nd) (ls : List Lk) (out : List Int) (h : nxt ls out ns 0 ≠ 0) : left ns (out ++ [nxt ls out ns 0]) < left ns out := by
  rcases nxt_mem ls out ns 0 with h1 | ⟨n, hn, h1, h2⟩
  · exact (h h1).elim
  · refine filter_lt _ _ (fun x hx => ?_) ns ⟨n, hn, by rw [h2]; rfl, by rw [h1, List.contains_append]; simp⟩
    rw [List.contains_append] at hx
    cases hc : out.contains x.f0
    · rfl
    · rw [hc] at hx; cases hx
theorem rord_end (ns : List Nd) (ls : List Lk) : ∀ (m : Nat) (out : List Int), left ns out ≤ m → nxt ls (rord ns ls m out) ns 0 = 0
  | 0, out, h => by
    show nxt ls out ns 0 = 0
    refine Classical.byContradiction fun hne => ?_
    have := left_lt ns ls out hne
    omega
  | m + 1, out, h => by
    rw [rord]
    split
    · assumption
    · rename_i hne
      exact rord_end ns ls m _ (by have := left_lt ns ls out hne; omega)
def rordF (ns : List Nd) (ls : List Lk) : List Int := rord ns ls ns.length []
theorem rorder_f (ns : List Nd) (ls : List Lk) (hl : ls.length ≤ 1000000) (hn : ns.length ≤ 1000000) : ∃ k, soundserviceref22_order.f k ns ls = some (rordF ns ls) :=
  l0_ex ns ls hl hn ns.length [] (by simpa using hn) (rord_end ns ls _ [] (List.length_filter_le _ _))
theorem rorder_calls (A : Option Addr) (c : Nat) (ns : List Nd) (A2 : Option Addr) (c2 : Nat) (ls : List Lk) (w : World) (hr : Rd kN w A c ns) (hr2 : Rd kL w A2 c2 ls) (hl : ls.length ≤ 1000000) (hn : ns.length ≤ 1000000) :
    Calls Try.prog 38 #[.agg #[.slice A ns.length c, .slice A2 ls.length c2]] w fun e w' => ∃ v0_ : Value, e = .returned (v0_) ∧ Kd.R (Kd.int .i64) 3 w' w.heap.size (fun _ => True) v0_ (rordF ns ls) ∧ Below w.heap.size w w' := by
  obtain ⟨k, hk⟩ := rorder_f ns ls hl hn
  exact soundserviceref22_order.calls k A c ns A2 c2 ls _ w hr.1 hr.2 hr2.1 hr2.2 hk
end Go.Proofs.YtcbpghpfdjfddaaG
-- Declarations of the text that this claim uses (slim.py, a program of this session).
namespace Go.Proofs.YtcbpghpfdjfddaaG
open Go Go.RowKit Go.Proofs.YtcbpghpfdjfddaaMp Go.Proofs.Ytcbpghpfdjfddaa.Q
set_option linter.unusedVariables false
def cnt (p : Lk → Bool) (ls : List Lk) : Int := ((ls.filter p).length : Int)
theorem cnt_cons (p : Lk → Bool) (l : Lk) (r : List Lk) : cnt p (l :: r) = (if p l = true then 1 else 0) + cnt p r := by
  unfold cnt
  rw [List.filter_cons]
  split
  · rw [List.length_cons]; omega
  · omega
theorem wt_fold (x : Int) : ∀ (ls : List Lk) (W : Int → Option Int), ((ls.foldl (fun W l => incW W l.f2) W) x).getD 0 = (W x).getD 0 + cnt (fun l => l.f2 == x) ls
  | [], W => by simp [cnt]
  | l :: r, W => by
    rw [List.foldl_cons, wt_fold x r, cnt_cons]
    unfold incW upd
    by_cases e : x = l.f2
    · rw [if_pos e, if_pos (beq_iff_eq.2 e.symm), Option.getD_some, ← e]; omega
    · rw [if_neg e, if_neg (fun h => e (beq_iff_eq.1 h).symm)]; omega
theorem decs_fold (id x : Int) : ∀ (ls : List Lk) (W : Int → Option Int), ((ls.foldl (fun W l => if l.f0 = id then decW W l.f2 else W) W) x).getD 0 = (W x).getD 0 - cnt (fun l => l.f0 == id && l.f2 == x) ls
  | [], W => by simp [cnt]
  | l :: r, W => by
    rw [List.foldl_cons, decs_fold id x r, cnt_cons]
    by_cases h : l.f0 = id
    · rw [if_pos h, beq_iff_eq.2 h, Bool.true_and]
      unfold decW upd
      by_cases e : x = l.f2
      · rw [if_pos e, if_pos (beq_iff_eq.2 e.symm), Option.getD_some, ← e]; omega
      · rw [if_neg e, if_neg (fun h => e (beq_iff_eq.1 h).symm)]; omega
    · rw [if_neg h, beq_eq_false_iff_ne.2 h, Bool.false_and, if_neg (by simp)]; omega
def open_ (out : List Int) (x : Int) (ls : List Lk) : Int := cnt (fun l => l.f2 == x && !out.contains l.f0) ls
theorem open_snoc (out : List Int) (id x : Int) (hid : out.contains id = false) : ∀ ls : List Lk, open_ (out ++ [id]) x ls = open_ out x ls - cnt (fun l => l.f0 == id && l.f2 == x) ls
  | [] => by simp [open_, cnt]
  | l :: r => by
    have ih := open_snoc out id x hid r
    unfold open_ at ih ⊢
    rw [cnt_cons, cnt_cons, cnt_cons, ih]
    by_cases h : l.f0 = id
    · have e1 : (out ++ [id]).contains l.f0 = true := by rw [List.contains_append, h]; simp
      rw [e1, h, hid]
      cases (l.f2 == x) <;> simp <;> omega
    · have e1 : (out ++ [id]).contains l.f0 = out.contains l.f0 := by rw [List.contains_append]; simp [h]
      rw [e1, beq_eq_false_iff_ne.2 h, Bool.false_and, if_neg (show ¬ (false = true) by simp)]
      omega
theorem frL_open (out : List Int) (id : Int) : ∀ (ls : List Lk) (b : Bool), frL out id ls b = (b && decide (open_ out id ls = 0))
  | [], b => by simp [frL, open_, cnt]
  | l :: r, b => by
    show frL out id r (b && (decide (l.f2 ≠ id) || out.contains l.f0)) = _
    rw [frL_open out id r]
    have hc : open_ out id (l :: r) = (if (l.f2 == id && !out.contains l.f0) = true then 1 else 0) + open_ out id r := cnt_cons _ _ _
    have hp : 0 ≤ open_ out id r := by unfold open_ cnt; omega
    rw [hc]
    by_cases h : l.f2 = id
    · rw [beq_iff_eq.2 h, decide_eq_false (show ¬ l.f2 ≠ id from fun k => k h), Bool.false_or, Bool.true_and]
      cases out.contains l.f0
      · rw [if_pos (show (!false) = true from rfl), decide_eq_false (show ¬ 1 + open_ out id r = 0 by omega), Bool.and_false]; rfl
      · rw [if_neg (show ¬ (!true) = true by simp), Bool.and_true, Int.zero_add]
    · rw [beq_eq_false_iff_ne.2 h, decide_eq_true (show l.f2 ≠ id from h), Bool.true_or, Bool.and_true, Bool.false_and, if_neg (by simp), Int.zero_add]
theorem nxt_keep (ls : List Lk) (out : List Int) : ∀ (ns : List Nd) (x : Int), x ≠ 0 → nxt ls out ns x = x
  | [], x, _ => rfl
  | n :: r, x, h => by
    rw [nxt_cons, if_neg h, ite_self]
    exact nxt_keep ls out r x h
theorem nxt_first (ls : List Lk) (out : List Int) (p : Nd → Bool) : ∀ (ns : List Nd) (i : Nat), (∀ n ∈ ns, n.f0 ≠ 0) → (∀ n ∈ ns, frL out n.f0 ls (!out.contains n.f0) = p n) → (ixF p i ns < 0 → nxt ls out ns 0 = 0) ∧ (0 ≤ ixF p i ns → (i : Int) ≤ ixF p i ns ∧ nxt ls out ns 0 = (ns.getD (ixF p i ns - i).toNat ⟨0, 0, 0, 0⟩).f0 ∧ nxt ls out ns 0 ≠ 0)
  | [], i, _, _ => ⟨fun _ => rfl, fun h => by simp [ixF] at h⟩
  | n :: r, i, h0, hp => by
    have hpn := hp n List.mem_cons_self
    have hn := h0 n List.mem_cons_self
    obtain ⟨i1, i2⟩ := nxt_first ls out p r (i + 1) (fun m hm => h0 m (List.mem_cons_of_mem _ hm)) (fun m hm => hp m (List.mem_cons_of_mem _ hm))
    rw [nxt_cons, hpn]
    unfold ixF
    cases hb : p n
    · simp only [Bool.false_eq_true, if_false]
      refine ⟨i1, fun h => ?_⟩
      obtain ⟨j1, j2, j3⟩ := i2 h
      refine ⟨by omega, ?_, j3⟩
      rw [j2]
      obtain ⟨k, hk⟩ : ∃ k : Nat, ixF p (i + 1) r = ((i + 1 + k : Nat) : Int) := ⟨(ixF p (i + 1) r - (i + 1 : Nat)).toNat, by omega⟩
      rw [hk, show ((i + 1 + k : Nat) : Int) - (i : Nat) = ((k + 1 : Nat) : Int) by omega, show ((i + 1 + k : Nat) : Int) - ((i + 1 : Nat) : Int) = ((k : Nat) : Int) by omega, Int.toNat_natCast, Int.toNat_natCast]
      rfl
    · simp only [if_true]
      rw [nxt_keep ls out r n.f0 hn]
      refine ⟨fun h => by omega, fun _ => ⟨Int.le_refl _, ?_, hn⟩⟩
      rw [Int.sub_self]
      rfl
theorem ord_eq (ns : List Nd) (ls : List Lk) (h0 : ∀ n ∈ ns, n.f0 ≠ 0) : ∀ (k : Nat) (d : Int → Bool) (W : Int → Option Int) (out : List Int), (∀ x, d x = out.contains x) → (∀ x, (W x).getD 0 = open_ out x ls) → ordR ns ls k d W out = rord ns ls k out
  | 0, d, W, out, _, _ => rfl
  | k + 1, d, W, out, hd, hW => by
    have hp : ∀ n ∈ ns, frL out n.f0 ls (!out.contains n.f0) = freeB d W n := fun n _ => by
      rw [frL_open]
      unfold freeB
      rw [hd, hW]
      rfl
    obtain ⟨a1, a2⟩ := nxt_first ls out (freeB d W) ns 0 h0 hp
    unfold ordR rord
    by_cases hi : ixF (freeB d W) 0 ns < 0
    · rw [if_pos hi, if_pos (a1 hi)]
    · obtain ⟨_, b2, b3⟩ := a2 (by omega)
      rw [Int.natCast_zero, Int.sub_zero] at b2
      rw [if_neg hi, if_neg b3, ← b2]
      have hc : out.contains (nxt ls out ns 0) = false := by
        rcases nxt_mem ls out ns 0 with h | ⟨n, _, h, hh⟩
        · exact (b3 h).elim
        · rw [h]; exact hh
      refine ord_eq ns ls h0 k _ _ _ (fun x => ?_) (fun x => ?_)
      · unfold upd
        rw [List.contains_append, hd]
        by_cases e : x = nxt ls out ns 0
        · rw [if_pos e, e]; simp
        · rw [if_neg e]; simp [e]
      · rw [open_snoc out _ x hc, ← hW]
        exact decs_fold _ x ls W
theorem rordF_eq (ns : List Nd) (ls : List Lk) (h0 : ∀ n ∈ ns, n.f0 ≠ 0) : ordF ns ls = rordF ns ls := by
  unfold ordF rordF
  refine ord_eq ns ls h0 _ _ _ [] (fun x => rfl) (fun x => ?_)
  unfold wt0
  rw [wt_fold x ls]
  unfold open_
  simp
end Go.Proofs.YtcbpghpfdjfddaaG
-- Declarations of the text that this claim uses (slim.py, a program of this session).
namespace Go.Proofs.YtcbpghpfdjfddaaG
open Go Go.RowKit Go.Proofs.YtcbpghpfdjfddaaMp Go.Proofs.Ytcbpghpfdjfddaa.Q
set_option linter.unusedVariables false
theorem nok_asc : ∀ (ns : List Nd) (p : Option Nd), nokR p ns = true → ns.Pairwise (fun a b => a.f0 < b.f0) ∧ (∀ q, p = some q → ∀ n ∈ ns, q.f0 < n.f0) ∧ (∀ n ∈ ns, fineB n = true)
  | [], p, _ => ⟨List.Pairwise.nil, ⟨fun _ _ _ h => (List.not_mem_nil h).elim, fun _ h => (List.not_mem_nil h).elim⟩⟩
  | n :: r, p, h => by
    rw [nok_cons, Bool.and_eq_true, Bool.and_eq_true] at h
    obtain ⟨h1, h2, h3⟩ := h
    obtain ⟨i1, i2, i3⟩ := nok_asc r (some n) h3
    refine ⟨List.pairwise_cons.2 ⟨fun m hm => i2 n rfl m hm, i1⟩, fun q hq m hm => ?_, fun m hm => ?_⟩
    · subst hq
      have hqn : q.f0 < n.f0 := of_decide_eq_true h2
      rcases List.mem_cons.1 hm with rfl | hm
      · exact hqn
      · exact Int.lt_trans hqn (i2 n rfl m hm)
    · rcases List.mem_cons.1 hm with rfl | hm
      · exact h1
      · exact i3 m hm
theorem ndAt_acc (x : Int) : ∀ (l : List Nd) (o : Option Nd), l.Pairwise (fun a b => a.f0 < b.f0) → l.foldl (fun o n => if x = n.f0 then some n else o) o = (l.find? fun n => n.f0 == x).or o
  | [], o, _ => rfl
  | n :: r, o, h => by
    obtain ⟨h1, h2⟩ := List.pairwise_cons.1 h
    rw [List.foldl_cons, ndAt_acc x r _ h2, List.find?_cons]
    by_cases e : n.f0 = x
    · rw [beq_iff_eq.2 e, if_pos e.symm]
      have hf : r.find? (fun n => n.f0 == x) = none := List.find?_eq_none.2 fun m hm => by
        have := h1 m hm
        simp only [beq_iff_eq]
        omega
      rw [hf]
      rfl
    · rw [beq_eq_false_iff_ne.2 e, if_neg (fun h => e h.symm)]
theorem ndAt_find {ns : List Nd} (h : ns.Pairwise (fun a b => a.f0 < b.f0)) (x : Int) : ndAt ns x = ns.find? fun n => n.f0 == x := by
  unfold ndAt
  rw [ndAt_acc x ns none h]
  cases ns.find? fun n => n.f0 == x <;> rfl
theorem nd_rn {ns : List Nd} (h : ns.Pairwise (fun a b => a.f0 < b.f0)) (x : Int) : nd ns x = rn ns x := by
  unfold nd rn
  rw [ndAt_find h x]
theorem ends_ports {ns : List Nd} (h : ns.Pairwise (fun a b => a.f0 < b.f0)) (x : Lk) : endsB ns x = portsB ns x := by
  unfold endsB portsB
  rw [nd_rn h, nd_rn h]
  have e : ∀ id, rh ns id = false → (rn ns id).f3 = 0 ∧ (rn ns id).f2 = 0 := fun id hid => by
    unfold rh at hid
    unfold rn
    cases hf : ns.find? fun n => n.f0 == id with
    | none => exact ⟨rfl, rfl⟩
    | some n => rw [hf] at hid; cases hid
  have e1 := e x.f0
  have e2 := e x.f2
  cases h1 : rh ns x.f0
  · obtain ⟨a, _⟩ := e1 h1
    rw [a, Bool.false_and]
    by_cases p : 0 ≤ x.f1
    · rw [decide_eq_false (show ¬ x.f1 < 0 by omega), Bool.false_and, Bool.and_false]
    · rw [decide_eq_false p, Bool.false_and]
  · cases h2 : rh ns x.f2
    · obtain ⟨_, a⟩ := e2 h2
      rw [a, Bool.true_and, Bool.false_and]
      by_cases p : 0 ≤ x.f3
      · rw [decide_eq_false (show ¬ x.f3 < 0 by omega)]; simp
      · rw [decide_eq_false p]; simp
    · rfl
theorem clash_cr {ns : List Nd} (h : ns.Pairwise (fun a b => a.f0 < b.f0)) (k x : Lk) : clashB ns k x = crB ns k x := by
  unfold clashB crB
  rw [nd_rn h, nd_rn h]
  have e2 : (k.f2 == x.f2 && (k.f3 == x.f3 && (rn ns k.f2).f1 != 3)) = (k.f2 == x.f2 && (k.f3 == x.f3 && (rn ns x.f2).f1 != 3)) := by
    by_cases h2 : k.f2 = x.f2
    · rw [h2]
    · rw [beq_eq_false_iff_ne.2 h2, Bool.false_and, Bool.false_and]
  have e0 : (k.f0 == x.f0 && (k.f1 == x.f1 && ((rn ns k.f0).f1 != 5 && (rn ns k.f0).f1 != 1))) = (k.f0 == x.f0 && (k.f1 == x.f1 && ((rn ns x.f0).f1 != 5 && (rn ns x.f0).f1 != 1))) := by
    by_cases h0 : k.f0 = x.f0
    · rw [h0]
    · rw [beq_eq_false_iff_ne.2 h0, Bool.false_and, Bool.false_and]
  rw [e2, e0]
end Go.Proofs.YtcbpghpfdjfddaaG
-- Declarations of the text that this claim uses (slim.py, a program of this session).
namespace Go.Proofs.Ytcbpghpfdjfddaa.Q
open Go Go.RowKit Go.Proofs.YtcbpghpfdjfddaaW.PrintWords Go.Proofs.YtcbpghpfdjfddaaW.PrintLast Go.Proofs.YtcbpghpfdjfddaaW.PrintMore Go.Proofs.YtcbpghpfdjfddaaSl
set_option linter.unusedVariables false
set_option linter.unusedSimpArgs false
end Go.Proofs.Ytcbpghpfdjfddaa.Q
-- Declarations of the text that this claim uses (slim.py, a program of this session).
namespace Go.Proofs.Ytcbpghpfdjfddaa.Q
open Go Go.RowKit Go.Proofs.YtcbpghpfdjfddaaW.PrintWords Go.Proofs.YtcbpghpfdjfddaaW.PrintLast Go.Proofs.YtcbpghpfdjfddaaW.PrintMore Go.Proofs.YtcbpghpfdjfddaaSl
set_option linter.unusedVariables false
end Go.Proofs.Ytcbpghpfdjfddaa.Q
-- Declarations of the text that this claim uses (slim.py, a program of this session).
namespace Go.Proofs.YtcbpghpfdjfddaaG
open Go Go.RowKit Go.Proofs.YtcbpghpfdjfddaaMp Go.Proofs.Ytcbpghpfdjfddaa.Q Go.Proofs.YtcbpghpfdjfddaaW.PrintWords Go.Proofs.YtcbpghpfdjfddaaW.PrintLast Go.Proofs.YtcbpghpfdjfddaaW.PrintMore
set_option linter.unusedVariables false
set_option linter.unusedSimpArgs false
theorem two_cells (A B : Option Addr) (a b c d : Nat) : ∀ q ∈ [Value.slice A a b, Value.slice B c d], q.oneCell' = true := by
  intro q hq
  rcases List.mem_cons.1 hq with rfl | hq
  · rfl
  · cases List.mem_singleton.1 hq; rfl
set_option maxHeartbeats 4000000 in
set_option maxRecDepth 100000 in
theorem close_calls (gm g6 gx : Nat) (ns : List Nd) (z x : Lk) (W : World) (hm : NdM W gm ns) (h6 : W.heap[g6]? = some (.cells #[.map (some gm)] 64 (0, 0))) (hx : W.heap[gx]? = some (.cells #[.int .i64 x.f0, .int .i64 x.f1, .int .i64 x.f2, .int .i64 x.f3] 45 (0, 0))) (h0 : wf z.f0) (h2 : wf z.f2) :
    Calls Try.prog 51 #[vL z, .pointer (some ⟨g6, 0, none⟩), .pointer (some ⟨gx, 0, none⟩)] W fun e w' => e = .returned (.bool (clashB ns z x)) ∧ Below W.heap.size W w' := by
  unfold vL
  have HC := Lib.hid (clash_calls gm ns z x (W.alloc (.cells #[.int .i64 z.f0, .int .i64 z.f1, .int .i64 z.f2, .int .i64 z.f3] 45 (0, 0))) (OwnM.alloc hm _) h0 h2)
  have HB := Lib.hid (bel1 W (.cells #[.int .i64 z.f0, .int .i64 z.f1, .int .i64 z.f2, .int .i64 z.f3] 45 (0, 0)))
  have l6 := hlt h6
  have lx := hlt hx
  have c6 := cel0 h6 0 _ rfl
  have cx0 := cel0 hx 0 _ rfl
  have cx1 := cel0 hx 1 _ rfl
  have cx2 := cel0 hx 2 _ rfl
  have cx3 := cel0 hx 3 _ rfl
  clear hm h6 hx h0 h2
  generalize clashB ns z x = R at HC
  go_enter Try.func51, Try.ntmps51
  go_wp2_with (go_at_call 43; (with_reducible refine HC.out.mono ?_); rintro e w2 ⟨rfl, hb2⟩; have HB2 := Lib.hid (below_step HB.out hb2); clear hb2)
  go_ret
  exact ⟨rfl, HB2.out⟩
set_option maxHeartbeats 4000000 in
set_option maxRecDepth 100000 in
theorem conn1 (A : Option Addr) (c : Nat) (ns : List Nd) (A2 : Option Addr) (c2 : Nat) (ls : List Lk) (x : Lk) (w : World) (HR : Hid (Rd kN w A c ns)) (HR2 : Hid (Rd kL w A2 c2 ls)) (HV : Hid (∀ W, Below w.heap.size w W → Calls Try.prog 14 #[.agg #[.slice A ns.length c, .slice A2 ls.length c2]] W fun e w' => e = .returned (.bool false) ∧ Below W.heap.size W w')) :
    Calls Try.prog 24 #[.agg #[.slice A ns.length c, .slice A2 ls.length c2], vL x] w fun e w' => ∃ v0_ v1_ : Value, e = .returned (.tuple #[.agg #[v0_, v1_], .int .i64 1]) ∧ Kd.R kN 43 w' w.heap.size (fun _ => True) v0_ [] ∧ Kd.R kL 45 w' w.heap.size (fun _ => True) v1_ [] ∧ Below w.heap.size w w' := by
  unfold vL
  go_enter Try.func24, Try.ntmps24
  go_wp2_with (first | ((with_reducible refine gate_dst (N := 2) rfl ?_); refine box_event ?hg (N := 2) ?hd (cs := #[.slice A ns.length c, .slice A2 ls.length c2]) (t := 25) ?hr ?_; (case hd => rfl); (case hg => rfl); (case hr => first | (go_simp; done) | (go_simp; rfl)); intro gb hg_ w2 hbox hb; have HB := Lib.hid hb; have HBX := Lib.hid hbox; have HGB := Lib.hid (Nat.le_of_eq hg_.symm); clear hbox hb hg_) | ((with_reducible refine gate_dst (N := 3) rfl ?_); refine box_event ?hg (N := 3) ?hd (cs := #[.int .i64 x.f0, .int .i64 x.f1, .int .i64 x.f2, .int .i64 x.f3]) (t := 45) ?hr ?_; (case hd => rfl); (case hg => rfl); (case hr => first | (go_simp; done) | (go_simp; rfl)); intro gx hg_ w3 hbox hb; have HGX := Lib.hid (show w.heap.size ≤ gx by rw [hg_]; exact HB.out.size); have HB_ := Lib.hid (below_step HB.out hb); have HBX_ := Lib.hid (hep HBX.out hb); clear HB HBX; have HB := HB_; have HBX := HBX_; clear HB_ HBX_; have HX := Lib.hid hbox; clear hbox hb hg_) | ((with_reducible refine gate_dst (N := 4) rfl ?_); refine box_event ?hg (N := 4) ?hd (cs := #[.slice none 0 0, .slice none 0 0]) (t := 25) ?hr ?_; (case hd => rfl); (case hg => rfl); (case hr => first | (go_simp; done) | (go_simp; rfl)); intro gr hg_ w4 hbox hb; have HGR := Lib.hid (show w.heap.size ≤ gr by rw [hg_]; exact HB.out.size); have HB_ := Lib.hid (below_step HB.out hb); have HBX_ := Lib.hid (hep HBX.out hb); have HX_ := Lib.hid (hep HX.out hb); clear HB HBX HX; have HB := HB_; have HBX := HBX_; have HX := HX_; clear HB_ HBX_ HX_; have HRC := Lib.hid hbox; have cb0 := cel0 HBX.out 0 _ rfl; have cb1 := cel0 HBX.out 1 _ rfl; have lb := hlt HBX.out; have cx0 := cel0 HX.out 0 _ rfl; have cx1 := cel0 HX.out 1 _ rfl; have cx2 := cel0 HX.out 2 _ rfl; have cx3 := cel0 HX.out 3 _ rfl; clear hbox hb hg_) | (go_at_call 14; (with_reducible refine (HV.out _ HB.out).mono ?_); rintro e w_ ⟨rfl, hb⟩; clear cb0 cb1 lb cx0 cx1 cx2 cx3; have HB_ := Lib.hid (below_step HB.out hb); have HBX_ := Lib.hid (hep HBX.out hb); have HX_ := Lib.hid (hep HX.out hb); have HRC_ := Lib.hid (hep HRC.out hb); clear HB HBX HX HRC; have HB := HB_; have HBX := HBX_; have HX := HX_; have HRC := HRC_; clear HB_ HBX_ HX_ HRC_; have cb0 := cel0 HBX.out 0 _ rfl; have cb1 := cel0 HBX.out 1 _ rfl; have lb := hlt HBX.out; have cx0 := cel0 HX.out 0 _ rfl; have cx1 := cel0 HX.out 1 _ rfl; have cx2 := cel0 HX.out 2 _ rfl; have cx3 := cel0 HX.out 3 _ rfl; clear hb) | ((with_reducible refine gate_store (t := 25) (p := 4) rfl ?_); refine wpList_put rfl rfl 25 _ _ rfl (off := 0) (cur := #[.slice none 0 0, .slice none 0 0]) HRC.out (by rfl) (.agg #[.slice none 0 0, .slice none 0 0]) (by rfl) [.slice none 0 0, .slice none 0 0] rfl (by kernel_rfl) (by decide) (by decide) #[.slice none 0 0, .slice none 0 0] rfl ?_; intro w_ hrc_ hg_; have HB_ := Lib.hid (bel_grown HB.out hg_ HGR.out HB.out.size); have HRC_ := Lib.hid hrc_; clear HB HRC hrc_ hg_; have HB := HB_; have HRC := HRC_; clear HB_ HRC_))
  refine bodyPost_ret (results_ct rfl _ _ gr 25 #[.slice none 0 0, .slice none 0 0] (0, 0) _ rfl HRC.out Try.underlying25 rfl (by kernel_rfl)) rfl ?_
  exact ⟨_, _, rfl, Kd.R_nil _ _ _ _ _, Kd.R_nil _ _ _ _ _, HB.out⟩
set_option maxHeartbeats 4000000 in
set_option maxRecDepth 100000 in
theorem conn7 (A : Option Addr) (c : Nat) (ns : List Nd) (A2 : Option Addr) (c2 : Nat) (ls : List Lk) (x : Lk) (w : World) (HR : Hid (Rd kN w A c ns)) (HR2 : Hid (Rd kL w A2 c2 ls)) (HV : Hid (∀ W, Below w.heap.size w W → Calls Try.prog 14 #[.agg #[.slice A ns.length c, .slice A2 ls.length c2]] W fun e w' => e = .returned (.bool true) ∧ Below W.heap.size W w')) (HNW : Hid (∀ n ∈ ns, wf n.f0)) (HN1 : Hid (ns.length ≤ 1000000)) (fb : Bool) (k : Nat) (HBS : Hid (∀ W, Below w.heap.size w W → Calls Try.prog 49 #[.slice A2 ls.length c2, .agg #[.int .i64 x.f0, .int .i64 x.f1, .int .i64 x.f2, .int .i64 x.f3], .func (.func 42) #[] #[]] W fun e w' => e = .returned (.tuple #[.int .i64 k, .bool fb]) ∧ Below W.heap.size W w')) (HEN : Hid (∀ (W : World) (gm : Nat), NdM W gm ns → Calls Try.prog 41 #[.map (some gm), .agg #[.int .i64 x.f0, .int .i64 x.f1, .int .i64 x.f2, .int .i64 x.f3]] W fun e w' => e = .returned (.bool false) ∧ Below W.heap.size W w')) :
    Calls Try.prog 24 #[.agg #[.slice A ns.length c, .slice A2 ls.length c2], vL x] w fun e w' => ∃ v0_ v1_ : Value, e = .returned (.tuple #[.agg #[v0_, v1_], .int .i64 7]) ∧ Kd.R kN 43 w' w.heap.size (fun _ => True) v0_ [] ∧ Kd.R kL 45 w' w.heap.size (fun _ => True) v1_ [] ∧ Below w.heap.size w w' := by
  unfold vL
  go_enter Try.func24, Try.ntmps24
  go_wp2_with (first | ((with_reducible refine gate_dst (N := 2) rfl ?_); refine box_event ?hg (N := 2) ?hd (cs := #[.slice A ns.length c, .slice A2 ls.length c2]) (t := 25) ?hr ?_; (case hd => rfl); (case hg => rfl); (case hr => first | (go_simp; done) | (go_simp; rfl)); intro gb hg_ w2 hbox hb; have HB := Lib.hid hb; have HBX := Lib.hid hbox; have HGB := Lib.hid (Nat.le_of_eq hg_.symm); clear hbox hb hg_) | ((with_reducible refine gate_dst (N := 3) rfl ?_); refine box_event ?hg (N := 3) ?hd (cs := #[.int .i64 x.f0, .int .i64 x.f1, .int .i64 x.f2, .int .i64 x.f3]) (t := 45) ?hr ?_; (case hd => rfl); (case hg => rfl); (case hr => first | (go_simp; done) | (go_simp; rfl)); intro gx hg_ w3 hbox hb; have HGX := Lib.hid (show w.heap.size ≤ gx by rw [hg_]; exact HB.out.size); have HB_ := Lib.hid (below_step HB.out hb); have HBX_ := Lib.hid (hep HBX.out hb); clear HB HBX; have HB := HB_; have HBX := HBX_; clear HB_ HBX_; have HX := Lib.hid hbox; clear hbox hb hg_) | ((with_reducible refine gate_dst (N := 4) rfl ?_); refine box_event ?hg (N := 4) ?hd (cs := #[.slice none 0 0, .slice none 0 0]) (t := 25) ?hr ?_; (case hd => rfl); (case hg => rfl); (case hr => first | (go_simp; done) | (go_simp; rfl)); intro gr hg_ w4 hbox hb; have HGR := Lib.hid (show w.heap.size ≤ gr by rw [hg_]; exact HB.out.size); have HB_ := Lib.hid (below_step HB.out hb); have HBX_ := Lib.hid (hep HBX.out hb); have HX_ := Lib.hid (hep HX.out hb); clear HB HBX HX; have HB := HB_; have HBX := HBX_; have HX := HX_; clear HB_ HBX_ HX_; have HRC := Lib.hid hbox; have cb0 := cel0 HBX.out 0 _ rfl; have cb1 := cel0 HBX.out 1 _ rfl; have lb := hlt HBX.out; have cx0 := cel0 HX.out 0 _ rfl; have cx1 := cel0 HX.out 1 _ rfl; have cx2 := cel0 HX.out 2 _ rfl; have cx3 := cel0 HX.out 3 _ rfl; clear hbox hb hg_) | (go_at_call 14; (with_reducible refine (HV.out _ HB.out).mono ?_); rintro e w_ ⟨rfl, hb⟩; clear cb0 cb1 lb cx0 cx1 cx2 cx3; have HB_ := Lib.hid (below_step HB.out hb); have HBX_ := Lib.hid (hep HBX.out hb); have HX_ := Lib.hid (hep HX.out hb); have HRC_ := Lib.hid (hep HRC.out hb); clear HB HBX HX HRC; have HB := HB_; have HBX := HBX_; have HX := HX_; have HRC := HRC_; clear HB_ HBX_ HX_ HRC_; have cb0 := cel0 HBX.out 0 _ rfl; have cb1 := cel0 HBX.out 1 _ rfl; have lb := hlt HBX.out; have cx0 := cel0 HX.out 0 _ rfl; have cx1 := cel0 HX.out 1 _ rfl; have cx2 := cel0 HX.out 2 _ rfl; have cx3 := cel0 HX.out 3 _ rfl; clear hb) | ((with_reducible refine gate_store (t := 25) (p := 4) rfl ?_); refine wpList_put rfl rfl 25 _ _ rfl (off := 0) (cur := #[.slice none 0 0, .slice none 0 0]) HRC.out (by rfl) (.agg #[.slice none 0 0, .slice none 0 0]) (by rfl) [.slice none 0 0, .slice none 0 0] rfl (by kernel_rfl) (by decide) (by decide) #[.slice none 0 0, .slice none 0 0] rfl ?_; intro w_ hrc_ hg_; have HB_ := Lib.hid (bel_grown HB.out hg_ HGR.out HB.out.size); have HRC_ := Lib.hid hrc_; clear HB HRC hrc_ hg_; have HB := HB_; have HRC := HRC_; clear HB_ HRC_) | (go_at_call 40; (with_reducible refine (find_calls A c ns A2 ls.length c2 _ (HR.out.below HB.out) HNW.out HN1.out).mono ?_); rintro e w_ ⟨gm, rfl, hgm, hmm, hb⟩; clear cb0 cb1 lb cx0 cx1 cx2 cx3; have HB_ := Lib.hid (below_step HB.out hb); have HBX_ := Lib.hid (hep HBX.out hb); have HX_ := Lib.hid (hep HX.out hb); have HRC_ := Lib.hid (hep HRC.out hb); clear HB HBX HX HRC; have HB := HB_; have HBX := HBX_; have HX := HX_; have HRC := HRC_; clear HB_ HBX_ HX_ HRC_; have HM := Lib.hid hmm; clear hmm hgm hb) | ((with_reducible refine gate_dst (N := 6) rfl ?_); refine box_event ?hg (N := 6) ?hd (cs := #[.map none]) (t := 64) ?hr ?_; (case hd => rfl); (case hg => rfl); (case hr => first | (go_simp; done) | (go_simp; rfl)); intro g6 hg_ w6 hbox hb; have HG6 := Lib.hid (show w.heap.size ≤ g6 by rw [hg_]; exact HB.out.size); have N6 := Lib.hid (show gb ≠ g6 ∧ gx ≠ g6 ∧ gr ≠ g6 ∧ gm ≠ g6 from ⟨by rw [hg_]; exact Nat.ne_of_lt (hlt HBX.out), by rw [hg_]; exact Nat.ne_of_lt (hlt HX.out), by rw [hg_]; exact Nat.ne_of_lt (hlt HRC.out), by rw [hg_]; exact Nat.ne_of_lt HM.out.lt⟩); have HB_ := Lib.hid (below_step HB.out hb); have HBX_ := Lib.hid (hep HBX.out hb); have HX_ := Lib.hid (hep HX.out hb); have HRC_ := Lib.hid (hep HRC.out hb); have HM_ := Lib.hid (show NdM _ gm ns from OwnM.below HM.out hb); clear HB HBX HX HRC HM; have HB := HB_; have HBX := HBX_; have HX := HX_; have HRC := HRC_; have HM := HM_; clear HB_ HBX_ HX_ HRC_ HM_; have H6 := Lib.hid hbox; clear hbox hb hg_) | ((with_reducible refine gate_store (t := 64) (p := 6) rfl ?_); refine wpList_put rfl rfl 64 _ _ rfl (off := 0) (cur := #[.map none]) H6.out (by rfl) (.map (some gm)) (by rfl) [.map (some gm)] rfl (by kernel_rfl) (by simp) (by intro q hq; cases List.mem_singleton.1 hq; rfl) #[.map (some gm)] rfl ?_; intro w_ h6_ hg_; have HB_ := Lib.hid (bel_grown HB.out hg_ HG6.out HB.out.size); have HBX_ := Lib.hid (blk_grown HBX.out hg_ (fun h => by injection h with h; exact N6.out.1 h)); have HX_ := Lib.hid (blk_grown HX.out hg_ (fun h => by injection h with h; exact N6.out.2.1 h)); have HRC_ := Lib.hid (blk_grown HRC.out hg_ (fun h => by injection h with h; exact N6.out.2.2.1 h)); have HM_ := Lib.hid (show NdM _ gm ns from OwnM.grown HM.out hg_ (fun h => by injection h with h; exact N6.out.2.2.2 h)); clear HB HBX HX HRC HM; have HB := HB_; have HBX := HBX_; have HX := HX_; have HRC := HRC_; have HM := HM_; clear HB_ HBX_ HX_ HRC_ HM_; clear H6; have H6 := Lib.hid h6_; clear h6_ hg_; have cb0 := cel0 HBX.out 0 _ rfl; have cb1 := cel0 HBX.out 1 _ rfl; have lb := hlt HBX.out; have cx0 := cel0 HX.out 0 _ rfl; have cx1 := cel0 HX.out 1 _ rfl; have cx2 := cel0 HX.out 2 _ rfl; have cx3 := cel0 HX.out 3 _ rfl) | (go_at_call 49; (with_reducible refine (HBS.out _ HB.out).mono ?_); rintro e w_ ⟨rfl, hb⟩; clear cb0 cb1 lb cx0 cx1 cx2 cx3; have HB_ := Lib.hid (below_step HB.out hb); have HBX_ := Lib.hid (hep HBX.out hb); have HX_ := Lib.hid (hep HX.out hb); have HRC_ := Lib.hid (hep HRC.out hb); have HM_ := Lib.hid (show NdM _ gm ns from OwnM.below HM.out hb); have H6_ := Lib.hid (hep H6.out hb); clear HB HBX HX HRC HM H6; have HB := HB_; have HBX := HBX_; have HX := HX_; have HRC := HRC_; have HM := HM_; have H6 := H6_; clear HB_ HBX_ HX_ HRC_ HM_ H6_; clear hb; have cb0 := cel0 HBX.out 0 _ rfl; have cb1 := cel0 HBX.out 1 _ rfl; have lb := hlt HBX.out; have cx0 := cel0 HX.out 0 _ rfl; have cx1 := cel0 HX.out 1 _ rfl; have cx2 := cel0 HX.out 2 _ rfl; have cx3 := cel0 HX.out 3 _ rfl; have c6 := cel0 H6.out 0 _ rfl) | (go_at_call 41; (with_reducible refine (HEN.out _ gm HM.out).mono ?_); rintro e w_ ⟨rfl, hb⟩; clear cb0 cb1 lb cx0 cx1 cx2 cx3; clear c6; have HB_ := Lib.hid (below_step HB.out hb); have HBX_ := Lib.hid (hep HBX.out hb); have HX_ := Lib.hid (hep HX.out hb); have HRC_ := Lib.hid (hep HRC.out hb); have HM_ := Lib.hid (show NdM _ gm ns from OwnM.below HM.out hb); have H6_ := Lib.hid (hep H6.out hb); clear HB HBX HX HRC HM H6; have HB := HB_; have HBX := HBX_; have HX := HX_; have HRC := HRC_; have HM := HM_; have H6 := H6_; clear HB_ HBX_ HX_ HRC_ HM_ H6_; clear hb; have cb0 := cel0 HBX.out 0 _ rfl; have cb1 := cel0 HBX.out 1 _ rfl; have lb := hlt HBX.out; have cx0 := cel0 HX.out 0 _ rfl; have cx1 := cel0 HX.out 1 _ rfl; have cx2 := cel0 HX.out 2 _ rfl; have cx3 := cel0 HX.out 3 _ rfl; have c6 := cel0 H6.out 0 _ rfl))
  refine bodyPost_ret (results_ct rfl _ _ gr 25 #[.slice none 0 0, .slice none 0 0] (0, 0) _ rfl HRC.out Try.underlying25 rfl (by kernel_rfl)) rfl ?_
  exact ⟨_, _, rfl, Kd.R_nil _ _ _ _ _, Kd.R_nil _ _ _ _ _, HB.out⟩
set_option maxHeartbeats 4000000 in
set_option maxRecDepth 100000 in
theorem conn8 (A : Option Addr) (c : Nat) (ns : List Nd) (A2 : Option Addr) (c2 : Nat) (ls : List Lk) (x : Lk) (w : World) (HR : Hid (Rd kN w A c ns)) (HR2 : Hid (Rd kL w A2 c2 ls)) (HV : Hid (∀ W, Below w.heap.size w W → Calls Try.prog 14 #[.agg #[.slice A ns.length c, .slice A2 ls.length c2]] W fun e w' => e = .returned (.bool true) ∧ Below W.heap.size W w')) (HNW : Hid (∀ n ∈ ns, wf n.f0)) (HN1 : Hid (ns.length ≤ 1000000)) (k : Nat) (HBS : Hid (∀ W, Below w.heap.size w W → Calls Try.prog 49 #[.slice A2 ls.length c2, .agg #[.int .i64 x.f0, .int .i64 x.f1, .int .i64 x.f2, .int .i64 x.f3], .func (.func 42) #[] #[]] W fun e w' => e = .returned (.tuple #[.int .i64 k, .bool true]) ∧ Below W.heap.size W w')) (HEN : Hid (∀ (W : World) (gm : Nat), NdM W gm ns → Calls Try.prog 41 #[.map (some gm), .agg #[.int .i64 x.f0, .int .i64 x.f1, .int .i64 x.f2, .int .i64 x.f3]] W fun e w' => e = .returned (.bool true) ∧ Below W.heap.size W w')) :
    Calls Try.prog 24 #[.agg #[.slice A ns.length c, .slice A2 ls.length c2], vL x] w fun e w' => ∃ v0_ v1_ : Value, e = .returned (.tuple #[.agg #[v0_, v1_], .int .i64 8]) ∧ Kd.R kN 43 w' w.heap.size (fun _ => True) v0_ [] ∧ Kd.R kL 45 w' w.heap.size (fun _ => True) v1_ [] ∧ Below w.heap.size w w' := by
  unfold vL
  go_enter Try.func24, Try.ntmps24
  go_wp2_with (first | ((with_reducible refine gate_dst (N := 2) rfl ?_); refine box_event ?hg (N := 2) ?hd (cs := #[.slice A ns.length c, .slice A2 ls.length c2]) (t := 25) ?hr ?_; (case hd => rfl); (case hg => rfl); (case hr => first | (go_simp; done) | (go_simp; rfl)); intro gb hg_ w2 hbox hb; have HB := Lib.hid hb; have HBX := Lib.hid hbox; have HGB := Lib.hid (Nat.le_of_eq hg_.symm); clear hbox hb hg_) | ((with_reducible refine gate_dst (N := 3) rfl ?_); refine box_event ?hg (N := 3) ?hd (cs := #[.int .i64 x.f0, .int .i64 x.f1, .int .i64 x.f2, .int .i64 x.f3]) (t := 45) ?hr ?_; (case hd => rfl); (case hg => rfl); (case hr => first | (go_simp; done) | (go_simp; rfl)); intro gx hg_ w3 hbox hb; have HGX := Lib.hid (show w.heap.size ≤ gx by rw [hg_]; exact HB.out.size); have HB_ := Lib.hid (below_step HB.out hb); have HBX_ := Lib.hid (hep HBX.out hb); clear HB HBX; have HB := HB_; have HBX := HBX_; clear HB_ HBX_; have HX := Lib.hid hbox; clear hbox hb hg_) | ((with_reducible refine gate_dst (N := 4) rfl ?_); refine box_event ?hg (N := 4) ?hd (cs := #[.slice none 0 0, .slice none 0 0]) (t := 25) ?hr ?_; (case hd => rfl); (case hg => rfl); (case hr => first | (go_simp; done) | (go_simp; rfl)); intro gr hg_ w4 hbox hb; have HGR := Lib.hid (show w.heap.size ≤ gr by rw [hg_]; exact HB.out.size); have HB_ := Lib.hid (below_step HB.out hb); have HBX_ := Lib.hid (hep HBX.out hb); have HX_ := Lib.hid (hep HX.out hb); clear HB HBX HX; have HB := HB_; have HBX := HBX_; have HX := HX_; clear HB_ HBX_ HX_; have HRC := Lib.hid hbox; have cb0 := cel0 HBX.out 0 _ rfl; have cb1 := cel0 HBX.out 1 _ rfl; have lb := hlt HBX.out; have cx0 := cel0 HX.out 0 _ rfl; have cx1 := cel0 HX.out 1 _ rfl; have cx2 := cel0 HX.out 2 _ rfl; have cx3 := cel0 HX.out 3 _ rfl; clear hbox hb hg_) | (go_at_call 14; (with_reducible refine (HV.out _ HB.out).mono ?_); rintro e w_ ⟨rfl, hb⟩; clear cb0 cb1 lb cx0 cx1 cx2 cx3; have HB_ := Lib.hid (below_step HB.out hb); have HBX_ := Lib.hid (hep HBX.out hb); have HX_ := Lib.hid (hep HX.out hb); have HRC_ := Lib.hid (hep HRC.out hb); clear HB HBX HX HRC; have HB := HB_; have HBX := HBX_; have HX := HX_; have HRC := HRC_; clear HB_ HBX_ HX_ HRC_; have cb0 := cel0 HBX.out 0 _ rfl; have cb1 := cel0 HBX.out 1 _ rfl; have lb := hlt HBX.out; have cx0 := cel0 HX.out 0 _ rfl; have cx1 := cel0 HX.out 1 _ rfl; have cx2 := cel0 HX.out 2 _ rfl; have cx3 := cel0 HX.out 3 _ rfl; clear hb) | ((with_reducible refine gate_store (t := 25) (p := 4) rfl ?_); refine wpList_put rfl rfl 25 _ _ rfl (off := 0) (cur := #[.slice none 0 0, .slice none 0 0]) HRC.out (by rfl) (.agg #[.slice none 0 0, .slice none 0 0]) (by rfl) [.slice none 0 0, .slice none 0 0] rfl (by kernel_rfl) (by decide) (by decide) #[.slice none 0 0, .slice none 0 0] rfl ?_; intro w_ hrc_ hg_; have HB_ := Lib.hid (bel_grown HB.out hg_ HGR.out HB.out.size); have HRC_ := Lib.hid hrc_; clear HB HRC hrc_ hg_; have HB := HB_; have HRC := HRC_; clear HB_ HRC_) | (go_at_call 40; (with_reducible refine (find_calls A c ns A2 ls.length c2 _ (HR.out.below HB.out) HNW.out HN1.out).mono ?_); rintro e w_ ⟨gm, rfl, hgm, hmm, hb⟩; clear cb0 cb1 lb cx0 cx1 cx2 cx3; have HB_ := Lib.hid (below_step HB.out hb); have HBX_ := Lib.hid (hep HBX.out hb); have HX_ := Lib.hid (hep HX.out hb); have HRC_ := Lib.hid (hep HRC.out hb); clear HB HBX HX HRC; have HB := HB_; have HBX := HBX_; have HX := HX_; have HRC := HRC_; clear HB_ HBX_ HX_ HRC_; have HM := Lib.hid hmm; clear hmm hgm hb) | ((with_reducible refine gate_dst (N := 6) rfl ?_); refine box_event ?hg (N := 6) ?hd (cs := #[.map none]) (t := 64) ?hr ?_; (case hd => rfl); (case hg => rfl); (case hr => first | (go_simp; done) | (go_simp; rfl)); intro g6 hg_ w6 hbox hb; have HG6 := Lib.hid (show w.heap.size ≤ g6 by rw [hg_]; exact HB.out.size); have N6 := Lib.hid (show gb ≠ g6 ∧ gx ≠ g6 ∧ gr ≠ g6 ∧ gm ≠ g6 from ⟨by rw [hg_]; exact Nat.ne_of_lt (hlt HBX.out), by rw [hg_]; exact Nat.ne_of_lt (hlt HX.out), by rw [hg_]; exact Nat.ne_of_lt (hlt HRC.out), by rw [hg_]; exact Nat.ne_of_lt HM.out.lt⟩); have HB_ := Lib.hid (below_step HB.out hb); have HBX_ := Lib.hid (hep HBX.out hb); have HX_ := Lib.hid (hep HX.out hb); have HRC_ := Lib.hid (hep HRC.out hb); have HM_ := Lib.hid (show NdM _ gm ns from OwnM.below HM.out hb); clear HB HBX HX HRC HM; have HB := HB_; have HBX := HBX_; have HX := HX_; have HRC := HRC_; have HM := HM_; clear HB_ HBX_ HX_ HRC_ HM_; have H6 := Lib.hid hbox; clear hbox hb hg_) | ((with_reducible refine gate_store (t := 64) (p := 6) rfl ?_); refine wpList_put rfl rfl 64 _ _ rfl (off := 0) (cur := #[.map none]) H6.out (by rfl) (.map (some gm)) (by rfl) [.map (some gm)] rfl (by kernel_rfl) (by simp) (by intro q hq; cases List.mem_singleton.1 hq; rfl) #[.map (some gm)] rfl ?_; intro w_ h6_ hg_; have HB_ := Lib.hid (bel_grown HB.out hg_ HG6.out HB.out.size); have HBX_ := Lib.hid (blk_grown HBX.out hg_ (fun h => by injection h with h; exact N6.out.1 h)); have HX_ := Lib.hid (blk_grown HX.out hg_ (fun h => by injection h with h; exact N6.out.2.1 h)); have HRC_ := Lib.hid (blk_grown HRC.out hg_ (fun h => by injection h with h; exact N6.out.2.2.1 h)); have HM_ := Lib.hid (show NdM _ gm ns from OwnM.grown HM.out hg_ (fun h => by injection h with h; exact N6.out.2.2.2 h)); clear HB HBX HX HRC HM; have HB := HB_; have HBX := HBX_; have HX := HX_; have HRC := HRC_; have HM := HM_; clear HB_ HBX_ HX_ HRC_ HM_; clear H6; have H6 := Lib.hid h6_; clear h6_ hg_; have cb0 := cel0 HBX.out 0 _ rfl; have cb1 := cel0 HBX.out 1 _ rfl; have lb := hlt HBX.out; have cx0 := cel0 HX.out 0 _ rfl; have cx1 := cel0 HX.out 1 _ rfl; have cx2 := cel0 HX.out 2 _ rfl; have cx3 := cel0 HX.out 3 _ rfl) | (go_at_call 49; (with_reducible refine (HBS.out _ HB.out).mono ?_); rintro e w_ ⟨rfl, hb⟩; clear cb0 cb1 lb cx0 cx1 cx2 cx3; have HB_ := Lib.hid (below_step HB.out hb); have HBX_ := Lib.hid (hep HBX.out hb); have HX_ := Lib.hid (hep HX.out hb); have HRC_ := Lib.hid (hep HRC.out hb); have HM_ := Lib.hid (show NdM _ gm ns from OwnM.below HM.out hb); have H6_ := Lib.hid (hep H6.out hb); clear HB HBX HX HRC HM H6; have HB := HB_; have HBX := HBX_; have HX := HX_; have HRC := HRC_; have HM := HM_; have H6 := H6_; clear HB_ HBX_ HX_ HRC_ HM_ H6_; clear hb; have cb0 := cel0 HBX.out 0 _ rfl; have cb1 := cel0 HBX.out 1 _ rfl; have lb := hlt HBX.out; have cx0 := cel0 HX.out 0 _ rfl; have cx1 := cel0 HX.out 1 _ rfl; have cx2 := cel0 HX.out 2 _ rfl; have cx3 := cel0 HX.out 3 _ rfl; have c6 := cel0 H6.out 0 _ rfl) | (go_at_call 41; (with_reducible refine (HEN.out _ gm HM.out).mono ?_); rintro e w_ ⟨rfl, hb⟩; clear cb0 cb1 lb cx0 cx1 cx2 cx3; clear c6; have HB_ := Lib.hid (below_step HB.out hb); have HBX_ := Lib.hid (hep HBX.out hb); have HX_ := Lib.hid (hep HX.out hb); have HRC_ := Lib.hid (hep HRC.out hb); have HM_ := Lib.hid (show NdM _ gm ns from OwnM.below HM.out hb); have H6_ := Lib.hid (hep H6.out hb); clear HB HBX HX HRC HM H6; have HB := HB_; have HBX := HBX_; have HX := HX_; have HRC := HRC_; have HM := HM_; have H6 := H6_; clear HB_ HBX_ HX_ HRC_ HM_ H6_; clear hb; have cb0 := cel0 HBX.out 0 _ rfl; have cb1 := cel0 HBX.out 1 _ rfl; have lb := hlt HBX.out; have cx0 := cel0 HX.out 0 _ rfl; have cx1 := cel0 HX.out 1 _ rfl; have cx2 := cel0 HX.out 2 _ rfl; have cx3 := cel0 HX.out 3 _ rfl; have c6 := cel0 H6.out 0 _ rfl))
  refine bodyPost_ret (results_ct rfl _ _ gr 25 #[.slice none 0 0, .slice none 0 0] (0, 0) _ rfl HRC.out Try.underlying25 rfl (by kernel_rfl)) rfl ?_
  exact ⟨_, _, rfl, Kd.R_nil _ _ _ _ _, Kd.R_nil _ _ _ _ _, HB.out⟩
set_option maxHeartbeats 4000000 in
set_option maxRecDepth 100000 in
theorem conn3 (A : Option Addr) (c : Nat) (ns : List Nd) (A2 : Option Addr) (c2 : Nat) (ls : List Lk) (x : Lk) (w : World) (HR : Hid (Rd kN w A c ns)) (HR2 : Hid (Rd kL w A2 c2 ls)) (HV : Hid (∀ W, Below w.heap.size w W → Calls Try.prog 14 #[.agg #[.slice A ns.length c, .slice A2 ls.length c2]] W fun e w' => e = .returned (.bool true) ∧ Below W.heap.size W w')) (HNW : Hid (∀ n ∈ ns, wf n.f0)) (HN1 : Hid (ns.length ≤ 1000000)) (k : Nat) (HBS : Hid (∀ W, Below w.heap.size w W → Calls Try.prog 49 #[.slice A2 ls.length c2, .agg #[.int .i64 x.f0, .int .i64 x.f1, .int .i64 x.f2, .int .i64 x.f3], .func (.func 42) #[] #[]] W fun e w' => e = .returned (.tuple #[.int .i64 k, .bool false]) ∧ Below W.heap.size W w')) (HEN : Hid (∀ (W : World) (gm : Nat), NdM W gm ns → Calls Try.prog 41 #[.map (some gm), .agg #[.int .i64 x.f0, .int .i64 x.f1, .int .i64 x.f2, .int .i64 x.f3]] W fun e w' => e = .returned (.bool true) ∧ Below W.heap.size W w')) (h256 : ls.length = 256) :
    Calls Try.prog 24 #[.agg #[.slice A ns.length c, .slice A2 ls.length c2], vL x] w fun e w' => ∃ v0_ v1_ : Value, e = .returned (.tuple #[.agg #[v0_, v1_], .int .i64 3]) ∧ Kd.R kN 43 w' w.heap.size (fun _ => True) v0_ [] ∧ Kd.R kL 45 w' w.heap.size (fun _ => True) v1_ [] ∧ Below w.heap.size w w' := by
  unfold vL
  have d256 : ((ls.length : Int) == 256) = true := by rw [h256]; rfl
  clear h256
  go_enter Try.func24, Try.ntmps24
  go_wp2_with (first | ((with_reducible refine gate_dst (N := 2) rfl ?_); refine box_event ?hg (N := 2) ?hd (cs := #[.slice A ns.length c, .slice A2 ls.length c2]) (t := 25) ?hr ?_; (case hd => rfl); (case hg => rfl); (case hr => first | (go_simp; done) | (go_simp; rfl)); intro gb hg_ w2 hbox hb; have HB := Lib.hid hb; have HBX := Lib.hid hbox; have HGB := Lib.hid (Nat.le_of_eq hg_.symm); clear hbox hb hg_) | ((with_reducible refine gate_dst (N := 3) rfl ?_); refine box_event ?hg (N := 3) ?hd (cs := #[.int .i64 x.f0, .int .i64 x.f1, .int .i64 x.f2, .int .i64 x.f3]) (t := 45) ?hr ?_; (case hd => rfl); (case hg => rfl); (case hr => first | (go_simp; done) | (go_simp; rfl)); intro gx hg_ w3 hbox hb; have HGX := Lib.hid (show w.heap.size ≤ gx by rw [hg_]; exact HB.out.size); have HB_ := Lib.hid (below_step HB.out hb); have HBX_ := Lib.hid (hep HBX.out hb); clear HB HBX; have HB := HB_; have HBX := HBX_; clear HB_ HBX_; have HX := Lib.hid hbox; clear hbox hb hg_) | ((with_reducible refine gate_dst (N := 4) rfl ?_); refine box_event ?hg (N := 4) ?hd (cs := #[.slice none 0 0, .slice none 0 0]) (t := 25) ?hr ?_; (case hd => rfl); (case hg => rfl); (case hr => first | (go_simp; done) | (go_simp; rfl)); intro gr hg_ w4 hbox hb; have HGR := Lib.hid (show w.heap.size ≤ gr by rw [hg_]; exact HB.out.size); have HB_ := Lib.hid (below_step HB.out hb); have HBX_ := Lib.hid (hep HBX.out hb); have HX_ := Lib.hid (hep HX.out hb); clear HB HBX HX; have HB := HB_; have HBX := HBX_; have HX := HX_; clear HB_ HBX_ HX_; have HRC := Lib.hid hbox; have cb0 := cel0 HBX.out 0 _ rfl; have cb1 := cel0 HBX.out 1 _ rfl; have lb := hlt HBX.out; have cx0 := cel0 HX.out 0 _ rfl; have cx1 := cel0 HX.out 1 _ rfl; have cx2 := cel0 HX.out 2 _ rfl; have cx3 := cel0 HX.out 3 _ rfl; clear hbox hb hg_) | (go_at_call 14; (with_reducible refine (HV.out _ HB.out).mono ?_); rintro e w_ ⟨rfl, hb⟩; clear cb0 cb1 lb cx0 cx1 cx2 cx3; have HB_ := Lib.hid (below_step HB.out hb); have HBX_ := Lib.hid (hep HBX.out hb); have HX_ := Lib.hid (hep HX.out hb); have HRC_ := Lib.hid (hep HRC.out hb); clear HB HBX HX HRC; have HB := HB_; have HBX := HBX_; have HX := HX_; have HRC := HRC_; clear HB_ HBX_ HX_ HRC_; have cb0 := cel0 HBX.out 0 _ rfl; have cb1 := cel0 HBX.out 1 _ rfl; have lb := hlt HBX.out; have cx0 := cel0 HX.out 0 _ rfl; have cx1 := cel0 HX.out 1 _ rfl; have cx2 := cel0 HX.out 2 _ rfl; have cx3 := cel0 HX.out 3 _ rfl; clear hb) | ((with_reducible refine gate_store (t := 25) (p := 4) rfl ?_); refine wpList_put rfl rfl 25 _ _ rfl (off := 0) (cur := #[.slice none 0 0, .slice none 0 0]) HRC.out (by rfl) (.agg #[.slice none 0 0, .slice none 0 0]) (by rfl) [.slice none 0 0, .slice none 0 0] rfl (by kernel_rfl) (by decide) (by decide) #[.slice none 0 0, .slice none 0 0] rfl ?_; intro w_ hrc_ hg_; have HB_ := Lib.hid (bel_grown HB.out hg_ HGR.out HB.out.size); have HRC_ := Lib.hid hrc_; clear HB HRC hrc_ hg_; have HB := HB_; have HRC := HRC_; clear HB_ HRC_) | (go_at_call 40; (with_reducible refine (find_calls A c ns A2 ls.length c2 _ (HR.out.below HB.out) HNW.out HN1.out).mono ?_); rintro e w_ ⟨gm, rfl, hgm, hmm, hb⟩; clear cb0 cb1 lb cx0 cx1 cx2 cx3; have HB_ := Lib.hid (below_step HB.out hb); have HBX_ := Lib.hid (hep HBX.out hb); have HX_ := Lib.hid (hep HX.out hb); have HRC_ := Lib.hid (hep HRC.out hb); clear HB HBX HX HRC; have HB := HB_; have HBX := HBX_; have HX := HX_; have HRC := HRC_; clear HB_ HBX_ HX_ HRC_; have HM := Lib.hid hmm; clear hmm hgm hb) | ((with_reducible refine gate_dst (N := 6) rfl ?_); refine box_event ?hg (N := 6) ?hd (cs := #[.map none]) (t := 64) ?hr ?_; (case hd => rfl); (case hg => rfl); (case hr => first | (go_simp; done) | (go_simp; rfl)); intro g6 hg_ w6 hbox hb; have HG6 := Lib.hid (show w.heap.size ≤ g6 by rw [hg_]; exact HB.out.size); have N6 := Lib.hid (show gb ≠ g6 ∧ gx ≠ g6 ∧ gr ≠ g6 ∧ gm ≠ g6 from ⟨by rw [hg_]; exact Nat.ne_of_lt (hlt HBX.out), by rw [hg_]; exact Nat.ne_of_lt (hlt HX.out), by rw [hg_]; exact Nat.ne_of_lt (hlt HRC.out), by rw [hg_]; exact Nat.ne_of_lt HM.out.lt⟩); have HB_ := Lib.hid (below_step HB.out hb); have HBX_ := Lib.hid (hep HBX.out hb); have HX_ := Lib.hid (hep HX.out hb); have HRC_ := Lib.hid (hep HRC.out hb); have HM_ := Lib.hid (show NdM _ gm ns from OwnM.below HM.out hb); clear HB HBX HX HRC HM; have HB := HB_; have HBX := HBX_; have HX := HX_; have HRC := HRC_; have HM := HM_; clear HB_ HBX_ HX_ HRC_ HM_; have H6 := Lib.hid hbox; clear hbox hb hg_) | ((with_reducible refine gate_store (t := 64) (p := 6) rfl ?_); refine wpList_put rfl rfl 64 _ _ rfl (off := 0) (cur := #[.map none]) H6.out (by rfl) (.map (some gm)) (by rfl) [.map (some gm)] rfl (by kernel_rfl) (by simp) (by intro q hq; cases List.mem_singleton.1 hq; rfl) #[.map (some gm)] rfl ?_; intro w_ h6_ hg_; have HB_ := Lib.hid (bel_grown HB.out hg_ HG6.out HB.out.size); have HBX_ := Lib.hid (blk_grown HBX.out hg_ (fun h => by injection h with h; exact N6.out.1 h)); have HX_ := Lib.hid (blk_grown HX.out hg_ (fun h => by injection h with h; exact N6.out.2.1 h)); have HRC_ := Lib.hid (blk_grown HRC.out hg_ (fun h => by injection h with h; exact N6.out.2.2.1 h)); have HM_ := Lib.hid (show NdM _ gm ns from OwnM.grown HM.out hg_ (fun h => by injection h with h; exact N6.out.2.2.2 h)); clear HB HBX HX HRC HM; have HB := HB_; have HBX := HBX_; have HX := HX_; have HRC := HRC_; have HM := HM_; clear HB_ HBX_ HX_ HRC_ HM_; clear H6; have H6 := Lib.hid h6_; clear h6_ hg_; have cb0 := cel0 HBX.out 0 _ rfl; have cb1 := cel0 HBX.out 1 _ rfl; have lb := hlt HBX.out; have cx0 := cel0 HX.out 0 _ rfl; have cx1 := cel0 HX.out 1 _ rfl; have cx2 := cel0 HX.out 2 _ rfl; have cx3 := cel0 HX.out 3 _ rfl) | (go_at_call 49; (with_reducible refine (HBS.out _ HB.out).mono ?_); rintro e w_ ⟨rfl, hb⟩; clear cb0 cb1 lb cx0 cx1 cx2 cx3; have HB_ := Lib.hid (below_step HB.out hb); have HBX_ := Lib.hid (hep HBX.out hb); have HX_ := Lib.hid (hep HX.out hb); have HRC_ := Lib.hid (hep HRC.out hb); have HM_ := Lib.hid (show NdM _ gm ns from OwnM.below HM.out hb); have H6_ := Lib.hid (hep H6.out hb); clear HB HBX HX HRC HM H6; have HB := HB_; have HBX := HBX_; have HX := HX_; have HRC := HRC_; have HM := HM_; have H6 := H6_; clear HB_ HBX_ HX_ HRC_ HM_ H6_; clear hb; have cb0 := cel0 HBX.out 0 _ rfl; have cb1 := cel0 HBX.out 1 _ rfl; have lb := hlt HBX.out; have cx0 := cel0 HX.out 0 _ rfl; have cx1 := cel0 HX.out 1 _ rfl; have cx2 := cel0 HX.out 2 _ rfl; have cx3 := cel0 HX.out 3 _ rfl; have c6 := cel0 H6.out 0 _ rfl) | (go_at_call 41; (with_reducible refine (HEN.out _ gm HM.out).mono ?_); rintro e w_ ⟨rfl, hb⟩; clear cb0 cb1 lb cx0 cx1 cx2 cx3; clear c6; have HB_ := Lib.hid (below_step HB.out hb); have HBX_ := Lib.hid (hep HBX.out hb); have HX_ := Lib.hid (hep HX.out hb); have HRC_ := Lib.hid (hep HRC.out hb); have HM_ := Lib.hid (show NdM _ gm ns from OwnM.below HM.out hb); have H6_ := Lib.hid (hep H6.out hb); clear HB HBX HX HRC HM H6; have HB := HB_; have HBX := HBX_; have HX := HX_; have HRC := HRC_; have HM := HM_; have H6 := H6_; clear HB_ HBX_ HX_ HRC_ HM_ H6_; clear hb; have cb0 := cel0 HBX.out 0 _ rfl; have cb1 := cel0 HBX.out 1 _ rfl; have lb := hlt HBX.out; have cx0 := cel0 HX.out 0 _ rfl; have cx1 := cel0 HX.out 1 _ rfl; have cx2 := cel0 HX.out 2 _ rfl; have cx3 := cel0 HX.out 3 _ rfl; have c6 := cel0 H6.out 0 _ rfl))
  refine bodyPost_ret (results_ct rfl _ _ gr 25 #[.slice none 0 0, .slice none 0 0] (0, 0) _ rfl HRC.out Try.underlying25 rfl (by kernel_rfl)) rfl ?_
  exact ⟨_, _, rfl, Kd.R_nil _ _ _ _ _, Kd.R_nil _ _ _ _ _, HB.out⟩
set_option maxHeartbeats 4000000 in
set_option maxRecDepth 100000 in
theorem conn10 (A : Option Addr) (c : Nat) (ns : List Nd) (A2 : Option Addr) (c2 : Nat) (ls : List Lk) (x : Lk) (w : World) (HR : Hid (Rd kN w A c ns)) (HR2 : Hid (Rd kL w A2 c2 ls)) (HV : Hid (∀ W, Below w.heap.size w W → Calls Try.prog 14 #[.agg #[.slice A ns.length c, .slice A2 ls.length c2]] W fun e w' => e = .returned (.bool true) ∧ Below W.heap.size W w')) (HNW : Hid (∀ n ∈ ns, wf n.f0)) (HN1 : Hid (ns.length ≤ 1000000)) (k : Nat) (HBS : Hid (∀ W, Below w.heap.size w W → Calls Try.prog 49 #[.slice A2 ls.length c2, .agg #[.int .i64 x.f0, .int .i64 x.f1, .int .i64 x.f2, .int .i64 x.f3], .func (.func 42) #[] #[]] W fun e w' => e = .returned (.tuple #[.int .i64 k, .bool false]) ∧ Below W.heap.size W w')) (HEN : Hid (∀ (W : World) (gm : Nat), NdM W gm ns → Calls Try.prog 41 #[.map (some gm), .agg #[.int .i64 x.f0, .int .i64 x.f1, .int .i64 x.f2, .int .i64 x.f3]] W fun e w' => e = .returned (.bool true) ∧ Below W.heap.size W w')) (h256 : ¬ ls.length = 256) (HCF : Hid (∀ (W : World) (gm g6 gx : Nat), NdM W gm ns → W.heap[g6]? = some (.cells #[.map (some gm)] 64 (0, 0)) → W.heap[gx]? = some (.cells #[.int .i64 x.f0, .int .i64 x.f1, .int .i64 x.f2, .int .i64 x.f3] 45 (0, 0)) → Below w.heap.size w W → Calls Try.prog 50 #[.slice A2 ls.length c2, .func (.func 51) #[] #[.pointer (some ⟨g6, 0, none⟩), .pointer (some ⟨gx, 0, none⟩)]] W fun e w' => e = .returned (.bool true) ∧ Below W.heap.size W w')) :
    Calls Try.prog 24 #[.agg #[.slice A ns.length c, .slice A2 ls.length c2], vL x] w fun e w' => ∃ v0_ v1_ : Value, e = .returned (.tuple #[.agg #[v0_, v1_], .int .i64 10]) ∧ Kd.R kN 43 w' w.heap.size (fun _ => True) v0_ [] ∧ Kd.R kL 45 w' w.heap.size (fun _ => True) v1_ [] ∧ Below w.heap.size w w' := by
  unfold vL
  have d256 : ((ls.length : Int) == 256) = false := by rw [beq_eq_false_iff_ne]; omega
  clear h256
  go_enter Try.func24, Try.ntmps24
  go_wp2_with (first | ((with_reducible refine gate_dst (N := 2) rfl ?_); refine box_event ?hg (N := 2) ?hd (cs := #[.slice A ns.length c, .slice A2 ls.length c2]) (t := 25) ?hr ?_; (case hd => rfl); (case hg => rfl); (case hr => first | (go_simp; done) | (go_simp; rfl)); intro gb hg_ w2 hbox hb; have HB := Lib.hid hb; have HBX := Lib.hid hbox; have HGB := Lib.hid (Nat.le_of_eq hg_.symm); clear hbox hb hg_) | ((with_reducible refine gate_dst (N := 3) rfl ?_); refine box_event ?hg (N := 3) ?hd (cs := #[.int .i64 x.f0, .int .i64 x.f1, .int .i64 x.f2, .int .i64 x.f3]) (t := 45) ?hr ?_; (case hd => rfl); (case hg => rfl); (case hr => first | (go_simp; done) | (go_simp; rfl)); intro gx hg_ w3 hbox hb; have HGX := Lib.hid (show w.heap.size ≤ gx by rw [hg_]; exact HB.out.size); have HB_ := Lib.hid (below_step HB.out hb); have HBX_ := Lib.hid (hep HBX.out hb); clear HB HBX; have HB := HB_; have HBX := HBX_; clear HB_ HBX_; have HX := Lib.hid hbox; clear hbox hb hg_) | ((with_reducible refine gate_dst (N := 4) rfl ?_); refine box_event ?hg (N := 4) ?hd (cs := #[.slice none 0 0, .slice none 0 0]) (t := 25) ?hr ?_; (case hd => rfl); (case hg => rfl); (case hr => first | (go_simp; done) | (go_simp; rfl)); intro gr hg_ w4 hbox hb; have HGR := Lib.hid (show w.heap.size ≤ gr by rw [hg_]; exact HB.out.size); have HB_ := Lib.hid (below_step HB.out hb); have HBX_ := Lib.hid (hep HBX.out hb); have HX_ := Lib.hid (hep HX.out hb); clear HB HBX HX; have HB := HB_; have HBX := HBX_; have HX := HX_; clear HB_ HBX_ HX_; have HRC := Lib.hid hbox; have cb0 := cel0 HBX.out 0 _ rfl; have cb1 := cel0 HBX.out 1 _ rfl; have lb := hlt HBX.out; have cx0 := cel0 HX.out 0 _ rfl; have cx1 := cel0 HX.out 1 _ rfl; have cx2 := cel0 HX.out 2 _ rfl; have cx3 := cel0 HX.out 3 _ rfl; clear hbox hb hg_) | (go_at_call 14; (with_reducible refine (HV.out _ HB.out).mono ?_); rintro e w_ ⟨rfl, hb⟩; clear cb0 cb1 lb cx0 cx1 cx2 cx3; have HB_ := Lib.hid (below_step HB.out hb); have HBX_ := Lib.hid (hep HBX.out hb); have HX_ := Lib.hid (hep HX.out hb); have HRC_ := Lib.hid (hep HRC.out hb); clear HB HBX HX HRC; have HB := HB_; have HBX := HBX_; have HX := HX_; have HRC := HRC_; clear HB_ HBX_ HX_ HRC_; have cb0 := cel0 HBX.out 0 _ rfl; have cb1 := cel0 HBX.out 1 _ rfl; have lb := hlt HBX.out; have cx0 := cel0 HX.out 0 _ rfl; have cx1 := cel0 HX.out 1 _ rfl; have cx2 := cel0 HX.out 2 _ rfl; have cx3 := cel0 HX.out 3 _ rfl; clear hb) | ((with_reducible refine gate_store (t := 25) (p := 4) rfl ?_); refine wpList_put rfl rfl 25 _ _ rfl (off := 0) (cur := #[.slice none 0 0, .slice none 0 0]) HRC.out (by rfl) (.agg #[.slice none 0 0, .slice none 0 0]) (by rfl) [.slice none 0 0, .slice none 0 0] rfl (by kernel_rfl) (by decide) (by decide) #[.slice none 0 0, .slice none 0 0] rfl ?_; intro w_ hrc_ hg_; have HB_ := Lib.hid (bel_grown HB.out hg_ HGR.out HB.out.size); have HRC_ := Lib.hid hrc_; clear HB HRC hrc_ hg_; have HB := HB_; have HRC := HRC_; clear HB_ HRC_) | (go_at_call 40; (with_reducible refine (find_calls A c ns A2 ls.length c2 _ (HR.out.below HB.out) HNW.out HN1.out).mono ?_); rintro e w_ ⟨gm, rfl, hgm, hmm, hb⟩; clear cb0 cb1 lb cx0 cx1 cx2 cx3; have HB_ := Lib.hid (below_step HB.out hb); have HBX_ := Lib.hid (hep HBX.out hb); have HX_ := Lib.hid (hep HX.out hb); have HRC_ := Lib.hid (hep HRC.out hb); clear HB HBX HX HRC; have HB := HB_; have HBX := HBX_; have HX := HX_; have HRC := HRC_; clear HB_ HBX_ HX_ HRC_; have HM := Lib.hid hmm; clear hmm hgm hb) | ((with_reducible refine gate_dst (N := 6) rfl ?_); refine box_event ?hg (N := 6) ?hd (cs := #[.map none]) (t := 64) ?hr ?_; (case hd => rfl); (case hg => rfl); (case hr => first | (go_simp; done) | (go_simp; rfl)); intro g6 hg_ w6 hbox hb; have HG6 := Lib.hid (show w.heap.size ≤ g6 by rw [hg_]; exact HB.out.size); have N6 := Lib.hid (show gb ≠ g6 ∧ gx ≠ g6 ∧ gr ≠ g6 ∧ gm ≠ g6 from ⟨by rw [hg_]; exact Nat.ne_of_lt (hlt HBX.out), by rw [hg_]; exact Nat.ne_of_lt (hlt HX.out), by rw [hg_]; exact Nat.ne_of_lt (hlt HRC.out), by rw [hg_]; exact Nat.ne_of_lt HM.out.lt⟩); have HB_ := Lib.hid (below_step HB.out hb); have HBX_ := Lib.hid (hep HBX.out hb); have HX_ := Lib.hid (hep HX.out hb); have HRC_ := Lib.hid (hep HRC.out hb); have HM_ := Lib.hid (show NdM _ gm ns from OwnM.below HM.out hb); clear HB HBX HX HRC HM; have HB := HB_; have HBX := HBX_; have HX := HX_; have HRC := HRC_; have HM := HM_; clear HB_ HBX_ HX_ HRC_ HM_; have H6 := Lib.hid hbox; clear hbox hb hg_) | ((with_reducible refine gate_store (t := 64) (p := 6) rfl ?_); refine wpList_put rfl rfl 64 _ _ rfl (off := 0) (cur := #[.map none]) H6.out (by rfl) (.map (some gm)) (by rfl) [.map (some gm)] rfl (by kernel_rfl) (by simp) (by intro q hq; cases List.mem_singleton.1 hq; rfl) #[.map (some gm)] rfl ?_; intro w_ h6_ hg_; have HB_ := Lib.hid (bel_grown HB.out hg_ HG6.out HB.out.size); have HBX_ := Lib.hid (blk_grown HBX.out hg_ (fun h => by injection h with h; exact N6.out.1 h)); have HX_ := Lib.hid (blk_grown HX.out hg_ (fun h => by injection h with h; exact N6.out.2.1 h)); have HRC_ := Lib.hid (blk_grown HRC.out hg_ (fun h => by injection h with h; exact N6.out.2.2.1 h)); have HM_ := Lib.hid (show NdM _ gm ns from OwnM.grown HM.out hg_ (fun h => by injection h with h; exact N6.out.2.2.2 h)); clear HB HBX HX HRC HM; have HB := HB_; have HBX := HBX_; have HX := HX_; have HRC := HRC_; have HM := HM_; clear HB_ HBX_ HX_ HRC_ HM_; clear H6; have H6 := Lib.hid h6_; clear h6_ hg_; have cb0 := cel0 HBX.out 0 _ rfl; have cb1 := cel0 HBX.out 1 _ rfl; have lb := hlt HBX.out; have cx0 := cel0 HX.out 0 _ rfl; have cx1 := cel0 HX.out 1 _ rfl; have cx2 := cel0 HX.out 2 _ rfl; have cx3 := cel0 HX.out 3 _ rfl) | (go_at_call 49; (with_reducible refine (HBS.out _ HB.out).mono ?_); rintro e w_ ⟨rfl, hb⟩; clear cb0 cb1 lb cx0 cx1 cx2 cx3; have HB_ := Lib.hid (below_step HB.out hb); have HBX_ := Lib.hid (hep HBX.out hb); have HX_ := Lib.hid (hep HX.out hb); have HRC_ := Lib.hid (hep HRC.out hb); have HM_ := Lib.hid (show NdM _ gm ns from OwnM.below HM.out hb); have H6_ := Lib.hid (hep H6.out hb); clear HB HBX HX HRC HM H6; have HB := HB_; have HBX := HBX_; have HX := HX_; have HRC := HRC_; have HM := HM_; have H6 := H6_; clear HB_ HBX_ HX_ HRC_ HM_ H6_; clear hb; have cb0 := cel0 HBX.out 0 _ rfl; have cb1 := cel0 HBX.out 1 _ rfl; have lb := hlt HBX.out; have cx0 := cel0 HX.out 0 _ rfl; have cx1 := cel0 HX.out 1 _ rfl; have cx2 := cel0 HX.out 2 _ rfl; have cx3 := cel0 HX.out 3 _ rfl; have c6 := cel0 H6.out 0 _ rfl) | (go_at_call 41; (with_reducible refine (HEN.out _ gm HM.out).mono ?_); rintro e w_ ⟨rfl, hb⟩; clear cb0 cb1 lb cx0 cx1 cx2 cx3; clear c6; have HB_ := Lib.hid (below_step HB.out hb); have HBX_ := Lib.hid (hep HBX.out hb); have HX_ := Lib.hid (hep HX.out hb); have HRC_ := Lib.hid (hep HRC.out hb); have HM_ := Lib.hid (show NdM _ gm ns from OwnM.below HM.out hb); have H6_ := Lib.hid (hep H6.out hb); clear HB HBX HX HRC HM H6; have HB := HB_; have HBX := HBX_; have HX := HX_; have HRC := HRC_; have HM := HM_; have H6 := H6_; clear HB_ HBX_ HX_ HRC_ HM_ H6_; clear hb; have cb0 := cel0 HBX.out 0 _ rfl; have cb1 := cel0 HBX.out 1 _ rfl; have lb := hlt HBX.out; have cx0 := cel0 HX.out 0 _ rfl; have cx1 := cel0 HX.out 1 _ rfl; have cx2 := cel0 HX.out 2 _ rfl; have cx3 := cel0 HX.out 3 _ rfl; have c6 := cel0 H6.out 0 _ rfl) | (go_at_call 50; (with_reducible refine (HCF.out _ gm g6 gx HM.out H6.out HX.out HB.out).mono ?_); rintro e w_ ⟨rfl, hb⟩; clear cb0 cb1 lb cx0 cx1 cx2 cx3; clear c6; have HB_ := Lib.hid (below_step HB.out hb); have HBX_ := Lib.hid (hep HBX.out hb); have HX_ := Lib.hid (hep HX.out hb); have HRC_ := Lib.hid (hep HRC.out hb); have HM_ := Lib.hid (show NdM _ gm ns from OwnM.below HM.out hb); have H6_ := Lib.hid (hep H6.out hb); clear HB HBX HX HRC HM H6; have HB := HB_; have HBX := HBX_; have HX := HX_; have HRC := HRC_; have HM := HM_; have H6 := H6_; clear HB_ HBX_ HX_ HRC_ HM_ H6_; clear hb; have cb0 := cel0 HBX.out 0 _ rfl; have cb1 := cel0 HBX.out 1 _ rfl; have lb := hlt HBX.out; have cx0 := cel0 HX.out 0 _ rfl; have cx1 := cel0 HX.out 1 _ rfl; have cx2 := cel0 HX.out 2 _ rfl; have cx3 := cel0 HX.out 3 _ rfl))
  refine bodyPost_ret (results_ct rfl _ _ gr 25 #[.slice none 0 0, .slice none 0 0] (0, 0) _ rfl HRC.out Try.underlying25 rfl (by kernel_rfl)) rfl ?_
  exact ⟨_, _, rfl, Kd.R_nil _ _ _ _ _, Kd.R_nil _ _ _ _ _, HB.out⟩
set_option maxHeartbeats 4000000 in
set_option maxRecDepth 100000 in
theorem conn12 (A : Option Addr) (c : Nat) (ns : List Nd) (A2 : Option Addr) (c2 : Nat) (ls : List Lk) (x : Lk) (w : World) (HR : Hid (Rd kN w A c ns)) (HR2 : Hid (Rd kL w A2 c2 ls)) (HV : Hid (∀ W, Below w.heap.size w W → Calls Try.prog 14 #[.agg #[.slice A ns.length c, .slice A2 ls.length c2]] W fun e w' => e = .returned (.bool true) ∧ Below W.heap.size W w')) (HNW : Hid (∀ n ∈ ns, wf n.f0)) (HN1 : Hid (ns.length ≤ 1000000)) (k : Nat) (HBS : Hid (∀ W, Below w.heap.size w W → Calls Try.prog 49 #[.slice A2 ls.length c2, .agg #[.int .i64 x.f0, .int .i64 x.f1, .int .i64 x.f2, .int .i64 x.f3], .func (.func 42) #[] #[]] W fun e w' => e = .returned (.tuple #[.int .i64 k, .bool false]) ∧ Below W.heap.size W w')) (HEN : Hid (∀ (W : World) (gm : Nat), NdM W gm ns → Calls Try.prog 41 #[.map (some gm), .agg #[.int .i64 x.f0, .int .i64 x.f1, .int .i64 x.f2, .int .i64 x.f3]] W fun e w' => e = .returned (.bool true) ∧ Below W.heap.size W w')) (h256 : ¬ ls.length = 256) (HCF : Hid (∀ (W : World) (gm g6 gx : Nat), NdM W gm ns → W.heap[g6]? = some (.cells #[.map (some gm)] 64 (0, 0)) → W.heap[gx]? = some (.cells #[.int .i64 x.f0, .int .i64 x.f1, .int .i64 x.f2, .int .i64 x.f3] 45 (0, 0)) → Below w.heap.size w W → Calls Try.prog 50 #[.slice A2 ls.length c2, .func (.func 51) #[] #[.pointer (some ⟨g6, 0, none⟩), .pointer (some ⟨gx, 0, none⟩)]] W fun e w' => e = .returned (.bool false) ∧ Below W.heap.size W w')) (out : List Lk) (HOWN : Hid (Go.Proofs.Ytcbpghpfdjfddaa.Q.graph_own.f ns ls = some (ns, ls))) (HINS : Hid (slices_Insert_L.f ls (k : Int) [x] = some out)) (HORD : Hid (∀ (W : World) (A0_ : Option Addr) (c0_ : Nat) (A3_ : Option Addr) (c3_ : Nat), Rd kN W A0_ c0_ ns → Rd kL W A3_ c3_ out → Calls Try.prog 37 #[.agg #[(.slice A0_ ns.length c0_), (.slice A3_ out.length c3_)]] W fun e w' => ∃ v, e = .returned v ∧ Kd.R (Kd.int .i64) 3 w' W.heap.size (fun _ => True) v (ordF ns out) ∧ Below W.heap.size W w'))  (dlt : decide ((ordF ns out).length < ns.length) = true) :
    Calls Try.prog 24 #[.agg #[.slice A ns.length c, .slice A2 ls.length c2], vL x] w fun e w' => ∃ v0_ v1_ : Value, e = .returned (.tuple #[.agg #[v0_, v1_], .int .i64 12]) ∧ Kd.R kN 43 w' w.heap.size (fun _ => True) v0_ [] ∧ Kd.R kL 45 w' w.heap.size (fun _ => True) v1_ [] ∧ Below w.heap.size w w' := by
  unfold vL
  have d256 : ((ls.length : Int) == 256) = false := by rw [beq_eq_false_iff_ne]; omega
  clear h256
  go_enter Try.func24, Try.ntmps24
  go_wp2_with (first | ((with_reducible refine gate_dst (N := 2) rfl ?_); refine box_event ?hg (N := 2) ?hd (cs := #[.slice A ns.length c, .slice A2 ls.length c2]) (t := 25) ?hr ?_; (case hd => rfl); (case hg => rfl); (case hr => first | (go_simp; done) | (go_simp; rfl)); intro gb hg_ w2 hbox hb; have HB := Lib.hid hb; have HBX := Lib.hid hbox; have HGB := Lib.hid (Nat.le_of_eq hg_.symm); clear hbox hb hg_) | ((with_reducible refine gate_dst (N := 3) rfl ?_); refine box_event ?hg (N := 3) ?hd (cs := #[.int .i64 x.f0, .int .i64 x.f1, .int .i64 x.f2, .int .i64 x.f3]) (t := 45) ?hr ?_; (case hd => rfl); (case hg => rfl); (case hr => first | (go_simp; done) | (go_simp; rfl)); intro gx hg_ w3 hbox hb; have HGX := Lib.hid (show w.heap.size ≤ gx by rw [hg_]; exact HB.out.size); have HB_ := Lib.hid (below_step HB.out hb); have HBX_ := Lib.hid (hep HBX.out hb); clear HB HBX; have HB := HB_; have HBX := HBX_; clear HB_ HBX_; have HX := Lib.hid hbox; clear hbox hb hg_) | ((with_reducible refine gate_dst (N := 4) rfl ?_); refine box_event ?hg (N := 4) ?hd (cs := #[.slice none 0 0, .slice none 0 0]) (t := 25) ?hr ?_; (case hd => rfl); (case hg => rfl); (case hr => first | (go_simp; done) | (go_simp; rfl)); intro gr hg_ w4 hbox hb; have HGR := Lib.hid (show w.heap.size ≤ gr by rw [hg_]; exact HB.out.size); have HB_ := Lib.hid (below_step HB.out hb); have HBX_ := Lib.hid (hep HBX.out hb); have HX_ := Lib.hid (hep HX.out hb); clear HB HBX HX; have HB := HB_; have HBX := HBX_; have HX := HX_; clear HB_ HBX_ HX_; have HRC := Lib.hid hbox; have cb0 := cel0 HBX.out 0 _ rfl; have cb1 := cel0 HBX.out 1 _ rfl; have lb := hlt HBX.out; have cx0 := cel0 HX.out 0 _ rfl; have cx1 := cel0 HX.out 1 _ rfl; have cx2 := cel0 HX.out 2 _ rfl; have cx3 := cel0 HX.out 3 _ rfl; clear hbox hb hg_) | (go_at_call 14; (with_reducible refine (HV.out _ HB.out).mono ?_); rintro e w_ ⟨rfl, hb⟩; clear cb0 cb1 lb cx0 cx1 cx2 cx3; have HB_ := Lib.hid (below_step HB.out hb); have HBX_ := Lib.hid (hep HBX.out hb); have HX_ := Lib.hid (hep HX.out hb); have HRC_ := Lib.hid (hep HRC.out hb); clear HB HBX HX HRC; have HB := HB_; have HBX := HBX_; have HX := HX_; have HRC := HRC_; clear HB_ HBX_ HX_ HRC_; have cb0 := cel0 HBX.out 0 _ rfl; have cb1 := cel0 HBX.out 1 _ rfl; have lb := hlt HBX.out; have cx0 := cel0 HX.out 0 _ rfl; have cx1 := cel0 HX.out 1 _ rfl; have cx2 := cel0 HX.out 2 _ rfl; have cx3 := cel0 HX.out 3 _ rfl; clear hb) | ((with_reducible refine gate_store (t := 25) (p := 4) rfl ?_); refine wpList_put rfl rfl 25 _ _ rfl (off := 0) (cur := #[.slice none 0 0, .slice none 0 0]) HRC.out (by rfl) (.agg #[.slice none 0 0, .slice none 0 0]) (by rfl) [.slice none 0 0, .slice none 0 0] rfl (by kernel_rfl) (by decide) (by decide) #[.slice none 0 0, .slice none 0 0] rfl ?_; intro w_ hrc_ hg_; have HB_ := Lib.hid (bel_grown HB.out hg_ HGR.out HB.out.size); have HRC_ := Lib.hid hrc_; clear HB HRC hrc_ hg_; have HB := HB_; have HRC := HRC_; clear HB_ HRC_) | (go_at_call 40; (with_reducible refine (find_calls A c ns A2 ls.length c2 _ (HR.out.below HB.out) HNW.out HN1.out).mono ?_); rintro e w_ ⟨gm, rfl, hgm, hmm, hb⟩; clear cb0 cb1 lb cx0 cx1 cx2 cx3; have HB_ := Lib.hid (below_step HB.out hb); have HBX_ := Lib.hid (hep HBX.out hb); have HX_ := Lib.hid (hep HX.out hb); have HRC_ := Lib.hid (hep HRC.out hb); clear HB HBX HX HRC; have HB := HB_; have HBX := HBX_; have HX := HX_; have HRC := HRC_; clear HB_ HBX_ HX_ HRC_; have HM := Lib.hid hmm; clear hmm hgm hb) | ((with_reducible refine gate_dst (N := 6) rfl ?_); refine box_event ?hg (N := 6) ?hd (cs := #[.map none]) (t := 64) ?hr ?_; (case hd => rfl); (case hg => rfl); (case hr => first | (go_simp; done) | (go_simp; rfl)); intro g6 hg_ w6 hbox hb; have HG6 := Lib.hid (show w.heap.size ≤ g6 by rw [hg_]; exact HB.out.size); have N6 := Lib.hid (show gb ≠ g6 ∧ gx ≠ g6 ∧ gr ≠ g6 ∧ gm ≠ g6 from ⟨by rw [hg_]; exact Nat.ne_of_lt (hlt HBX.out), by rw [hg_]; exact Nat.ne_of_lt (hlt HX.out), by rw [hg_]; exact Nat.ne_of_lt (hlt HRC.out), by rw [hg_]; exact Nat.ne_of_lt HM.out.lt⟩); have HB_ := Lib.hid (below_step HB.out hb); have HBX_ := Lib.hid (hep HBX.out hb); have HX_ := Lib.hid (hep HX.out hb); have HRC_ := Lib.hid (hep HRC.out hb); have HM_ := Lib.hid (show NdM _ gm ns from OwnM.below HM.out hb); clear HB HBX HX HRC HM; have HB := HB_; have HBX := HBX_; have HX := HX_; have HRC := HRC_; have HM := HM_; clear HB_ HBX_ HX_ HRC_ HM_; have H6 := Lib.hid hbox; clear hbox hb hg_) | ((with_reducible refine gate_store (t := 64) (p := 6) rfl ?_); refine wpList_put rfl rfl 64 _ _ rfl (off := 0) (cur := #[.map none]) H6.out (by rfl) (.map (some gm)) (by rfl) [.map (some gm)] rfl (by kernel_rfl) (by simp) (by intro q hq; cases List.mem_singleton.1 hq; rfl) #[.map (some gm)] rfl ?_; intro w_ h6_ hg_; have HB_ := Lib.hid (bel_grown HB.out hg_ HG6.out HB.out.size); have HBX_ := Lib.hid (blk_grown HBX.out hg_ (fun h => by injection h with h; exact N6.out.1 h)); have HX_ := Lib.hid (blk_grown HX.out hg_ (fun h => by injection h with h; exact N6.out.2.1 h)); have HRC_ := Lib.hid (blk_grown HRC.out hg_ (fun h => by injection h with h; exact N6.out.2.2.1 h)); have HM_ := Lib.hid (show NdM _ gm ns from OwnM.grown HM.out hg_ (fun h => by injection h with h; exact N6.out.2.2.2 h)); clear HB HBX HX HRC HM; have HB := HB_; have HBX := HBX_; have HX := HX_; have HRC := HRC_; have HM := HM_; clear HB_ HBX_ HX_ HRC_ HM_; clear H6; have H6 := Lib.hid h6_; clear h6_ hg_; have cb0 := cel0 HBX.out 0 _ rfl; have cb1 := cel0 HBX.out 1 _ rfl; have lb := hlt HBX.out; have cx0 := cel0 HX.out 0 _ rfl; have cx1 := cel0 HX.out 1 _ rfl; have cx2 := cel0 HX.out 2 _ rfl; have cx3 := cel0 HX.out 3 _ rfl) | (go_at_call 49; (with_reducible refine (HBS.out _ HB.out).mono ?_); rintro e w_ ⟨rfl, hb⟩; clear cb0 cb1 lb cx0 cx1 cx2 cx3; have HB_ := Lib.hid (below_step HB.out hb); have HBX_ := Lib.hid (hep HBX.out hb); have HX_ := Lib.hid (hep HX.out hb); have HRC_ := Lib.hid (hep HRC.out hb); have HM_ := Lib.hid (show NdM _ gm ns from OwnM.below HM.out hb); have H6_ := Lib.hid (hep H6.out hb); clear HB HBX HX HRC HM H6; have HB := HB_; have HBX := HBX_; have HX := HX_; have HRC := HRC_; have HM := HM_; have H6 := H6_; clear HB_ HBX_ HX_ HRC_ HM_ H6_; clear hb; have cb0 := cel0 HBX.out 0 _ rfl; have cb1 := cel0 HBX.out 1 _ rfl; have lb := hlt HBX.out; have cx0 := cel0 HX.out 0 _ rfl; have cx1 := cel0 HX.out 1 _ rfl; have cx2 := cel0 HX.out 2 _ rfl; have cx3 := cel0 HX.out 3 _ rfl; have c6 := cel0 H6.out 0 _ rfl) | (go_at_call 41; (with_reducible refine (HEN.out _ gm HM.out).mono ?_); rintro e w_ ⟨rfl, hb⟩; clear cb0 cb1 lb cx0 cx1 cx2 cx3; clear c6; have HB_ := Lib.hid (below_step HB.out hb); have HBX_ := Lib.hid (hep HBX.out hb); have HX_ := Lib.hid (hep HX.out hb); have HRC_ := Lib.hid (hep HRC.out hb); have HM_ := Lib.hid (show NdM _ gm ns from OwnM.below HM.out hb); have H6_ := Lib.hid (hep H6.out hb); clear HB HBX HX HRC HM H6; have HB := HB_; have HBX := HBX_; have HX := HX_; have HRC := HRC_; have HM := HM_; have H6 := H6_; clear HB_ HBX_ HX_ HRC_ HM_ H6_; clear hb; have cb0 := cel0 HBX.out 0 _ rfl; have cb1 := cel0 HBX.out 1 _ rfl; have lb := hlt HBX.out; have cx0 := cel0 HX.out 0 _ rfl; have cx1 := cel0 HX.out 1 _ rfl; have cx2 := cel0 HX.out 2 _ rfl; have cx3 := cel0 HX.out 3 _ rfl; have c6 := cel0 H6.out 0 _ rfl) | (go_at_call 50; (with_reducible refine (HCF.out _ gm g6 gx HM.out H6.out HX.out HB.out).mono ?_); rintro e w_ ⟨rfl, hb⟩; clear cb0 cb1 lb cx0 cx1 cx2 cx3; clear c6; have HB_ := Lib.hid (below_step HB.out hb); have HBX_ := Lib.hid (hep HBX.out hb); have HX_ := Lib.hid (hep HX.out hb); have HRC_ := Lib.hid (hep HRC.out hb); have HM_ := Lib.hid (show NdM _ gm ns from OwnM.below HM.out hb); have H6_ := Lib.hid (hep H6.out hb); clear HB HBX HX HRC HM H6; have HB := HB_; have HBX := HBX_; have HX := HX_; have HRC := HRC_; have HM := HM_; have H6 := H6_; clear HB_ HBX_ HX_ HRC_ HM_ H6_; clear hb; have cb0 := cel0 HBX.out 0 _ rfl; have cb1 := cel0 HBX.out 1 _ rfl; have lb := hlt HBX.out; have cx0 := cel0 HX.out 0 _ rfl; have cx1 := cel0 HX.out 1 _ rfl; have cx2 := cel0 HX.out 2 _ rfl; have cx3 := cel0 HX.out 3 _ rfl) | (go_at_call 52; (with_reducible refine (Go.Proofs.Ytcbpghpfdjfddaa.Q.graph_own.calls A c ns A2 c2 ls ns ls _ (HR.out.below HB.out).c HR.out.le (HR2.out.below HB.out).c HR2.out.le HOWN.out).mono ?_); rintro e w_ ⟨v0_, v1_, rfl, ho0, ho1, hb⟩; clear cb0 cb1 lb cx0 cx1 cx2 cx3; obtain ⟨A0_, c0_, rfl⟩ := Kd.R_slice ho0; obtain ⟨A1_, c1_, rfl⟩ := Kd.R_slice ho1; have HO0 := Lib.hid (Kd.R_lower ho0 HB.out.size); have HO1 := Lib.hid (Kd.R_lower ho1 HB.out.size); have HB_ := Lib.hid (below_step HB.out hb); have HX_ := Lib.hid (hep HX.out hb); have HRC_ := Lib.hid (hep HRC.out hb); clear HB HX HRC; have HB := HB_; have HX := HX_; have HRC := HRC_; clear HB_ HX_ HRC_; clear HM H6 HBX ho0 ho1 hb) | ((with_reducible refine gate_dst (N := 9) rfl ?_); refine box_event ?hg (N := 9) ?hd (cs := #[.slice none 0 0, .slice none 0 0]) (t := 25) ?hr ?_; (case hd => rfl); (case hg => rfl); (case hr => first | (go_simp; done) | (go_simp; rfl)); intro g9 hg_ w9 hbox hb; have HG9 := Lib.hid (show w.heap.size ≤ g9 by rw [hg_]; exact HB.out.size); have N9 := Lib.hid (show gx ≠ g9 ∧ gr ≠ g9 from ⟨by rw [hg_]; exact Nat.ne_of_lt (hlt HX.out), by rw [hg_]; exact Nat.ne_of_lt (hlt HRC.out)⟩); have HB_ := Lib.hid (below_step HB.out hb); have HX_ := Lib.hid (hep HX.out hb); have HRC_ := Lib.hid (hep HRC.out hb); have HO0_ := Lib.hid (Kd.R_below HO0.out hb); have HO1_ := Lib.hid (Kd.R_below HO1.out hb); clear HB HX HRC HO0 HO1; have HB := HB_; have HX := HX_; have HRC := HRC_; have HO0 := HO0_; have HO1 := HO1_; clear HB_ HX_ HRC_ HO0_ HO1_; have H9 := Lib.hid hbox; clear hbox hb hg_) | ((with_reducible refine gate_store (t := 25) (p := 9) rfl ?_); refine wpList_put rfl rfl 25 _ _ rfl (off := 0) (cur := #[.slice none 0 0, .slice none 0 0]) H9.out (by rfl) (.agg #[(.slice A0_ ns.length c0_), (.slice A1_ ls.length c1_)]) (by rfl) [(.slice A0_ ns.length c0_), (.slice A1_ ls.length c1_)] rfl (by kernel_rfl) (by simp) (two_cells _ _ _ _ _ _) #[(.slice A0_ ns.length c0_), (.slice A1_ ls.length c1_)] rfl ?_; intro w_ h9_ hg_; have HB_ := Lib.hid (bel_grown HB.out hg_ HG9.out HB.out.size); have HX_ := Lib.hid (blk_grown HX.out hg_ (fun h => by injection h with h; exact N9.out.1 h)); have HRC_ := Lib.hid (blk_grown HRC.out hg_ (fun h => by injection h with h; exact N9.out.2 h)); have HO0_ := Lib.hid (Kd.R_grown2 HO0.out rfl hg_ (fun k_ hk_ => by injection hk_ with hk_; subst hk_; exact Kd.R_ne HO0.out H9.out (by decide))); have HO1_ := Lib.hid (Kd.R_grown2 HO1.out rfl hg_ (fun k_ hk_ => by injection hk_ with hk_; subst hk_; exact Kd.R_ne HO1.out H9.out (by decide))); clear HB HX HRC HO0 HO1; have HB := HB_; have HX := HX_; have HRC := HRC_; have HO0 := HO0_; have HO1 := HO1_; clear HB_ HX_ HRC_ HO0_ HO1_; clear H9; have H9 := Lib.hid h9_; clear h9_ hg_; have c91 := cel0 H9.out 1 _ rfl; have lb9 := hlt H9.out; have cx0 := cel0 HX.out 0 _ rfl; have cx1 := cel0 HX.out 1 _ rfl; have cx2 := cel0 HX.out 2 _ rfl; have cx3 := cel0 HX.out 3 _ rfl) | ((with_reducible refine gate_dst (N := 50) rfl ?_); refine Kd.R_lit kL _ 45 ?hg (N := 50) ?hd (xs := ([x] : List Lk)) (inner := [.int .i64 x.f0, .int .i64 x.f1, .int .i64 x.f2, .int .i64 x.f3]) (ok := fun _ => True) (okp := fun _ => True) ?hr ?hp (fun _ hk => hk) trivial (Below.refl _ _) (Nat.le_refl _) (by simp) ?_; (case hd => rfl); (case hg => rfl); (case hr => first | (go_simp; done) | (go_simp; rfl)); (case hp => exact (Reps.c4 (show Kd.M kL _ _ _ x [.int .i64 x.f0, .int .i64 x.f1, .int .i64 x.f2, .int .i64 x.f3] from (k45_mkM _ _ _ x)) (Reps.none _ _))); intro vl w_ hol hb hg_ hnew_; clear hg_ hnew_; obtain ⟨Al, cl, rfl⟩ := Kd.R_slice hol; have HL := Lib.hid (Kd.R_new' hol (Kd.R_lt HO1.out)); clear hol c91 lb9 cx0 cx1 cx2 cx3; have HB_ := Lib.hid (below_step HB.out hb); have HX_ := Lib.hid (hep HX.out hb); have HRC_ := Lib.hid (hep HRC.out hb); have HO0_ := Lib.hid (Kd.R_below HO0.out hb); have HO1_ := Lib.hid (Kd.R_below HO1.out hb); have H9_ := Lib.hid (hep H9.out hb); clear HB HX HRC HO0 HO1 H9; have HB := HB_; have HX := HX_; have HRC := HRC_; have HO0 := HO0_; have HO1 := HO1_; have H9 := H9_; clear HB_ HX_ HRC_ HO0_ HO1_ H9_; clear hb) | (go_at_call 53; (refine (slices_Insert_L.calls (fun k_ => some k_ = ((.slice A1_ ls.length c1_) : Value).ownBlock) (.slice A1_ ls.length c1_) ls (k : Int) Al cl [x] out w _ HB.out (Kd.R_tight rfl HO1.out) (Kd.C_kept_own HL.out (fun k_ hk_ hs_ => absurd hs_ hk_.2)) (Kd.R_reads' HL.out).2.1 HINS.out).mono ?_); rintro e w_ ⟨v2_, rfl, ho2, hb, hkp⟩; have HRC_ := Lib.hid (blk_kept HRC.out hkp (fun hs_ => Kd.R_ne HO1.out HRC.out (by decide) hs_)); have H9_ := Lib.hid (blk_kept H9.out hkp (fun hs_ => Kd.R_ne HO1.out H9.out (by decide) hs_)); have HO0_ := Lib.hid (Kd.R_mono (ok' := fun _ => True) (Kd.R_keptB (Kd.R_apart' HO0.out (Kd.R_typed HO1.out) (by decide)) hkp (fun k_ hk_ hs_ => hk_.2 hs_)) (fun _ _ => trivial)); have HO1_ := Lib.hid (Kd.R_mono (ok' := fun _ => True) ho2 (fun _ _ => trivial)); clear HB HX HRC H9 HO0 HO1 HL; have HB := Lib.hid hb; have HRC := HRC_; have H9 := H9_; have HO0 := HO0_; have HO1 := HO1_; clear HRC_ H9_ HO0_ HO1_ hb hkp ho2; obtain ⟨A3_, c3_, rfl⟩ := Kd.R_slice HO1.out; have lb9 := hlt H9.out) | ((with_reducible refine gate_store (t := 23) (p := 52) rfl ?_); refine wpList_put rfl rfl 23 _ _ rfl (off := 1) (cur := #[(.slice A0_ ns.length c0_), (.slice A1_ ls.length c1_)]) H9.out (by rfl) (.slice A3_ out.length c3_) (by rfl) [(.slice A3_ out.length c3_)] rfl (by kernel_rfl) (by simp) (by intro q hq; cases List.mem_singleton.1 hq; rfl) #[(.slice A0_ ns.length c0_), (.slice A3_ out.length c3_)] rfl ?_; intro w16 h9_ hg_; have HB_ := Lib.hid (bel_grown HB.out hg_ HG9.out HB.out.size); have HRC_ := Lib.hid (blk_grown HRC.out hg_ (fun h => by injection h with h; exact N9.out.2 h)); have HO0_ := Lib.hid (Kd.R_grown2 HO0.out rfl hg_ (fun k_ hk_ => by injection hk_ with hk_; subst hk_; exact Kd.R_ne HO0.out H9.out (by decide))); have HO1_ := Lib.hid (Kd.R_grown2 HO1.out rfl hg_ (fun k_ hk_ => by injection hk_ with hk_; subst hk_; exact Kd.R_ne HO1.out H9.out (by decide))); clear HB HRC HO0 HO1; have HB := HB_; have HRC := HRC_; have HO0 := HO0_; have HO1 := HO1_; clear HB_ HRC_ HO0_ HO1_; clear H9 lb9; have H9 := Lib.hid h9_; clear h9_ hg_; have c90 := cel0 H9.out 0 _ rfl; have c91 := cel0 H9.out 1 _ rfl; have lb9 := hlt H9.out; have RN := Lib.hid (show Rd kN w16 A0_ c0_ ns from ⟨(Kd.R_reads' HO0.out).2.2, (Kd.R_reads' HO0.out).2.1⟩); have RL := Lib.hid (show Rd kL w16 A3_ c3_ out from ⟨(Kd.R_reads' HO1.out).2.2, (Kd.R_reads' HO1.out).2.1⟩)))
  refine start_ (n := 7) (S := fun w' => Below w16.heap.size w16 w') (ds := []) #[false, false, false, false, false, false, false] (by kernel_rfl) rfl rfl (below_drew1 (Below.refl _ _)) (fun hHeld => ?_)
  generalize World.drew w16 = wq_ at hHeld ⊢
  refine take_ (i := 0) (N := some 53) (v := ?_) (a' := ?_) #[true, false, false, false, false, false, false] rfl rfl (by kernel_rfl) (fun _ _ _ h => h) (Or.inl ⟨by rfl, ?_⟩) hHeld ?_ ?_
  rotate_left
  · intro w' hb_
    have k0_ := cellB hb_ c90
    have k1_ := cellB hb_ c91
    go_simp
    with_reducible rfl
  rotate_left
  · simp only [Act.put, List.setIfInBounds_toArray, List.set_cons_zero, List.set_cons_succ, i64_w, i32_w]
    rfl
  refine pure_ (i := 3) (N := some 56) (v := ?_) (a' := ?_) #[true, false, false, true, false, false, false] rfl rfl (by kernel_rfl) (fun _ _ _ h => h) (Or.inl ⟨by rfl, ?_⟩) ?_ ?_
  rotate_left
  · intro w'
    go_simp
    with_reducible rfl
  rotate_left
  · simp only [Act.put, List.setIfInBounds_toArray, List.set_cons_zero, List.set_cons_succ, i64_w, i32_w]
    rfl
  refine take_ (i := 4) (N := some 57) (v := ?_) (a' := ?_) #[true, false, false, true, true, false, false] rfl rfl (by kernel_rfl) (fun _ _ _ h => h) (Or.inl ⟨by rfl, ?_⟩) hHeld ?_ ?_
  rotate_left
  · intro w' hb_
    have k0_ := cellB hb_ c90
    go_simp
    with_reducible rfl
  rotate_left
  · simp only [Act.put, List.setIfInBounds_toArray, List.set_cons_zero, List.set_cons_succ, i64_w, i32_w]
    rfl
  refine pure_ (i := 5) (N := some 58) (v := ?_) (a' := ?_) #[true, false, false, true, true, true, false] rfl rfl (by kernel_rfl) (fun _ _ _ h => h) (Or.inl ⟨by rfl, ?_⟩) ?_ ?_
  rotate_left
  · intro w'
    go_simp
    with_reducible rfl
  rotate_left
  · simp only [Act.put, List.setIfInBounds_toArray, List.set_cons_zero, List.set_cons_succ, i64_w, i32_w]
    rfl
  refine one_ (i := 1) (N := some 54) #[true, true, false, true, true, true, false] rfl rfl (by kernel_rfl) (by decide) (fun K hK => ?_)
  refine goes_ Try.func37 (by kernel_rfl) rfl #[.agg #[(.slice A0_ ns.length c0_), (.slice A3_ out.length c3_)]] (by rfl) rfl rfl (by (try simp only [List.map_toArray, List.map_cons, List.map_nil]); first | done | rfl) ?_
  refine (HORD.out _ A0_ c0_ A3_ c3_ (RN.out.below hHeld) (RL.out.below hHeld)).mono ?_
  rintro e w1_ ⟨sv, rfl, hsv, hb1_⟩
  obtain ⟨Av, cv, rfl⟩ := Go.Proofs.YtcbpghpfdjfddaaW.PrintWords.Kd.R_slice hsv
  refine ⟨_, rfl, ?_⟩
  refine hK.out _ _ (below_step hHeld hb1_) (fun hHeld => ?_)
  clear hb1_ hsv
  clear hK K
  refine norm_ (a' := ?_) ?_ ?_
  rotate_left
  · show Act.put _ (some 54) _ = _
    simp only [Act.put, List.setIfInBounds_toArray, List.set_cons_zero, List.set_cons_succ, i64_w, i32_w]
    rfl
  refine pure_ (i := 2) (N := some 55) (v := ?_) (a' := ?_) #[true, true, true, true, true, true, false] rfl rfl (by kernel_rfl) (fun _ _ _ h => h) (Or.inl ⟨by rfl, ?_⟩) ?_ ?_
  rotate_left
  · intro w'
    go_simp
    with_reducible rfl
  rotate_left
  · simp only [Act.put, List.setIfInBounds_toArray, List.set_cons_zero, List.set_cons_succ, i64_w, i32_w]
    rfl
  refine pure_ (i := 6) (N := some 59) (v := ?_) (a' := ?_) #[true, true, true, true, true, true, true] rfl rfl (by kernel_rfl) (fun _ _ _ h => h) (Or.inl ⟨by rfl, ?_⟩) ?_ ?_
  rotate_left
  · intro w'
    go_simp
    try rw [dlt]
    all_goals with_reducible rfl
  rotate_left
  · simp only [Act.put, List.setIfInBounds_toArray, List.set_cons_zero, List.set_cons_succ, i64_w, i32_w]
    rfl
  refine done_ (by kernel_rfl) ?_
  have HB_ := Lib.hid (below_step HB.out hHeld)
  have HRC_ := Lib.hid (hep HRC.out hHeld)
  have H9_ := Lib.hid (hep H9.out hHeld)
  have HO0_ := Lib.hid (Kd.R_below HO0.out hHeld)
  have HO1_ := Lib.hid (Kd.R_below HO1.out hHeld)
  clear HB HRC H9 HO0 HO1 hHeld c90 c91 lb9
  have HB := HB_
  have HRC := HRC_
  have H9 := H9_
  have HO0 := HO0_
  have HO1 := HO1_
  clear HB_ HRC_ H9_ HO0_ HO1_
  have c90 := cel0 H9.out 0 _ rfl
  have c91 := cel0 H9.out 1 _ rfl
  go_wp2_with (first | ((with_reducible refine gate_store (t := 25) (p := 4) rfl ?_); refine wpList_put rfl rfl 25 _ _ rfl (off := 0) (cur := #[.slice none 0 0, .slice none 0 0]) HRC.out (by rfl) (.agg #[.slice none 0 0, .slice none 0 0]) (by rfl) [.slice none 0 0, .slice none 0 0] rfl (by kernel_rfl) (by decide) (by decide) #[.slice none 0 0, .slice none 0 0] rfl ?_; intro w_ hrc_ hg_; have HB_ := Lib.hid (bel_grown HB.out hg_ HGR.out HB.out.size); have HRC_ := Lib.hid hrc_; clear HB HRC hrc_ hg_; have HB := HB_; have HRC := HRC_; clear HB_ HRC_))
  refine bodyPost_ret (results_ct rfl _ _ gr 25 #[.slice none 0 0, .slice none 0 0] (0, 0) _ rfl HRC.out Try.underlying25 rfl (by kernel_rfl)) rfl ?_
  exact ⟨_, _, rfl, Kd.R_nil _ _ _ _ _, Kd.R_nil _ _ _ _ _, HB.out⟩
set_option maxHeartbeats 4000000 in
set_option maxRecDepth 100000 in
theorem conn0 (A : Option Addr) (c : Nat) (ns : List Nd) (A2 : Option Addr) (c2 : Nat) (ls : List Lk) (x : Lk) (w : World) (HR : Hid (Rd kN w A c ns)) (HR2 : Hid (Rd kL w A2 c2 ls)) (HV : Hid (∀ W, Below w.heap.size w W → Calls Try.prog 14 #[.agg #[.slice A ns.length c, .slice A2 ls.length c2]] W fun e w' => e = .returned (.bool true) ∧ Below W.heap.size W w')) (HNW : Hid (∀ n ∈ ns, wf n.f0)) (HN1 : Hid (ns.length ≤ 1000000)) (k : Nat) (HBS : Hid (∀ W, Below w.heap.size w W → Calls Try.prog 49 #[.slice A2 ls.length c2, .agg #[.int .i64 x.f0, .int .i64 x.f1, .int .i64 x.f2, .int .i64 x.f3], .func (.func 42) #[] #[]] W fun e w' => e = .returned (.tuple #[.int .i64 k, .bool false]) ∧ Below W.heap.size W w')) (HEN : Hid (∀ (W : World) (gm : Nat), NdM W gm ns → Calls Try.prog 41 #[.map (some gm), .agg #[.int .i64 x.f0, .int .i64 x.f1, .int .i64 x.f2, .int .i64 x.f3]] W fun e w' => e = .returned (.bool true) ∧ Below W.heap.size W w')) (h256 : ¬ ls.length = 256) (HCF : Hid (∀ (W : World) (gm g6 gx : Nat), NdM W gm ns → W.heap[g6]? = some (.cells #[.map (some gm)] 64 (0, 0)) → W.heap[gx]? = some (.cells #[.int .i64 x.f0, .int .i64 x.f1, .int .i64 x.f2, .int .i64 x.f3] 45 (0, 0)) → Below w.heap.size w W → Calls Try.prog 50 #[.slice A2 ls.length c2, .func (.func 51) #[] #[.pointer (some ⟨g6, 0, none⟩), .pointer (some ⟨gx, 0, none⟩)]] W fun e w' => e = .returned (.bool false) ∧ Below W.heap.size W w')) (out : List Lk) (HOWN : Hid (Go.Proofs.Ytcbpghpfdjfddaa.Q.graph_own.f ns ls = some (ns, ls))) (HINS : Hid (slices_Insert_L.f ls (k : Int) [x] = some out)) (HORD : Hid (∀ (W : World) (A0_ : Option Addr) (c0_ : Nat) (A3_ : Option Addr) (c3_ : Nat), Rd kN W A0_ c0_ ns → Rd kL W A3_ c3_ out → Calls Try.prog 37 #[.agg #[(.slice A0_ ns.length c0_), (.slice A3_ out.length c3_)]] W fun e w' => ∃ v, e = .returned v ∧ Kd.R (Kd.int .i64) 3 w' W.heap.size (fun _ => True) v (ordF ns out) ∧ Below W.heap.size W w'))  (dlt : decide ((ordF ns out).length < ns.length) = false) :
    Calls Try.prog 24 #[.agg #[.slice A ns.length c, .slice A2 ls.length c2], vL x] w fun e w' => ∃ v0_ v1_ : Value, e = .returned (.tuple #[.agg #[v0_, v1_], .int .i64 0]) ∧ Kd.R kN 43 w' w.heap.size (fun _ => True) v0_ ns ∧ Kd.R kL 45 w' w.heap.size (fun _ => True) v1_ out ∧ Below w.heap.size w w' := by
  unfold vL
  have d256 : ((ls.length : Int) == 256) = false := by rw [beq_eq_false_iff_ne]; omega
  clear h256
  go_enter Try.func24, Try.ntmps24
  go_wp2_with (first | ((with_reducible refine gate_dst (N := 2) rfl ?_); refine box_event ?hg (N := 2) ?hd (cs := #[.slice A ns.length c, .slice A2 ls.length c2]) (t := 25) ?hr ?_; (case hd => rfl); (case hg => rfl); (case hr => first | (go_simp; done) | (go_simp; rfl)); intro gb hg_ w2 hbox hb; have HB := Lib.hid hb; have HBX := Lib.hid hbox; have HGB := Lib.hid (Nat.le_of_eq hg_.symm); clear hbox hb hg_) | ((with_reducible refine gate_dst (N := 3) rfl ?_); refine box_event ?hg (N := 3) ?hd (cs := #[.int .i64 x.f0, .int .i64 x.f1, .int .i64 x.f2, .int .i64 x.f3]) (t := 45) ?hr ?_; (case hd => rfl); (case hg => rfl); (case hr => first | (go_simp; done) | (go_simp; rfl)); intro gx hg_ w3 hbox hb; have HGX := Lib.hid (show w.heap.size ≤ gx by rw [hg_]; exact HB.out.size); have HB_ := Lib.hid (below_step HB.out hb); have HBX_ := Lib.hid (hep HBX.out hb); clear HB HBX; have HB := HB_; have HBX := HBX_; clear HB_ HBX_; have HX := Lib.hid hbox; clear hbox hb hg_) | ((with_reducible refine gate_dst (N := 4) rfl ?_); refine box_event ?hg (N := 4) ?hd (cs := #[.slice none 0 0, .slice none 0 0]) (t := 25) ?hr ?_; (case hd => rfl); (case hg => rfl); (case hr => first | (go_simp; done) | (go_simp; rfl)); intro gr hg_ w4 hbox hb; have HGR := Lib.hid (show w.heap.size ≤ gr by rw [hg_]; exact HB.out.size); have HB_ := Lib.hid (below_step HB.out hb); have HBX_ := Lib.hid (hep HBX.out hb); have HX_ := Lib.hid (hep HX.out hb); clear HB HBX HX; have HB := HB_; have HBX := HBX_; have HX := HX_; clear HB_ HBX_ HX_; have HRC := Lib.hid hbox; have cb0 := cel0 HBX.out 0 _ rfl; have cb1 := cel0 HBX.out 1 _ rfl; have lb := hlt HBX.out; have cx0 := cel0 HX.out 0 _ rfl; have cx1 := cel0 HX.out 1 _ rfl; have cx2 := cel0 HX.out 2 _ rfl; have cx3 := cel0 HX.out 3 _ rfl; clear hbox hb hg_) | (go_at_call 14; (with_reducible refine (HV.out _ HB.out).mono ?_); rintro e w_ ⟨rfl, hb⟩; clear cb0 cb1 lb cx0 cx1 cx2 cx3; have HB_ := Lib.hid (below_step HB.out hb); have HBX_ := Lib.hid (hep HBX.out hb); have HX_ := Lib.hid (hep HX.out hb); have HRC_ := Lib.hid (hep HRC.out hb); clear HB HBX HX HRC; have HB := HB_; have HBX := HBX_; have HX := HX_; have HRC := HRC_; clear HB_ HBX_ HX_ HRC_; have cb0 := cel0 HBX.out 0 _ rfl; have cb1 := cel0 HBX.out 1 _ rfl; have lb := hlt HBX.out; have cx0 := cel0 HX.out 0 _ rfl; have cx1 := cel0 HX.out 1 _ rfl; have cx2 := cel0 HX.out 2 _ rfl; have cx3 := cel0 HX.out 3 _ rfl; clear hb) | ((with_reducible refine gate_store (t := 25) (p := 4) rfl ?_); refine wpList_put rfl rfl 25 _ _ rfl (off := 0) (cur := #[.slice none 0 0, .slice none 0 0]) HRC.out (by rfl) (.agg #[.slice none 0 0, .slice none 0 0]) (by rfl) [.slice none 0 0, .slice none 0 0] rfl (by kernel_rfl) (by decide) (by decide) #[.slice none 0 0, .slice none 0 0] rfl ?_; intro w_ hrc_ hg_; have HB_ := Lib.hid (bel_grown HB.out hg_ HGR.out HB.out.size); have HRC_ := Lib.hid hrc_; clear HB HRC hrc_ hg_; have HB := HB_; have HRC := HRC_; clear HB_ HRC_) | (go_at_call 40; (with_reducible refine (find_calls A c ns A2 ls.length c2 _ (HR.out.below HB.out) HNW.out HN1.out).mono ?_); rintro e w_ ⟨gm, rfl, hgm, hmm, hb⟩; clear cb0 cb1 lb cx0 cx1 cx2 cx3; have HB_ := Lib.hid (below_step HB.out hb); have HBX_ := Lib.hid (hep HBX.out hb); have HX_ := Lib.hid (hep HX.out hb); have HRC_ := Lib.hid (hep HRC.out hb); clear HB HBX HX HRC; have HB := HB_; have HBX := HBX_; have HX := HX_; have HRC := HRC_; clear HB_ HBX_ HX_ HRC_; have HM := Lib.hid hmm; clear hmm hgm hb) | ((with_reducible refine gate_dst (N := 6) rfl ?_); refine box_event ?hg (N := 6) ?hd (cs := #[.map none]) (t := 64) ?hr ?_; (case hd => rfl); (case hg => rfl); (case hr => first | (go_simp; done) | (go_simp; rfl)); intro g6 hg_ w6 hbox hb; have HG6 := Lib.hid (show w.heap.size ≤ g6 by rw [hg_]; exact HB.out.size); have N6 := Lib.hid (show gb ≠ g6 ∧ gx ≠ g6 ∧ gr ≠ g6 ∧ gm ≠ g6 from ⟨by rw [hg_]; exact Nat.ne_of_lt (hlt HBX.out), by rw [hg_]; exact Nat.ne_of_lt (hlt HX.out), by rw [hg_]; exact Nat.ne_of_lt (hlt HRC.out), by rw [hg_]; exact Nat.ne_of_lt HM.out.lt⟩); have HB_ := Lib.hid (below_step HB.out hb); have HBX_ := Lib.hid (hep HBX.out hb); have HX_ := Lib.hid (hep HX.out hb); have HRC_ := Lib.hid (hep HRC.out hb); have HM_ := Lib.hid (show NdM _ gm ns from OwnM.below HM.out hb); clear HB HBX HX HRC HM; have HB := HB_; have HBX := HBX_; have HX := HX_; have HRC := HRC_; have HM := HM_; clear HB_ HBX_ HX_ HRC_ HM_; have H6 := Lib.hid hbox; clear hbox hb hg_) | ((with_reducible refine gate_store (t := 64) (p := 6) rfl ?_); refine wpList_put rfl rfl 64 _ _ rfl (off := 0) (cur := #[.map none]) H6.out (by rfl) (.map (some gm)) (by rfl) [.map (some gm)] rfl (by kernel_rfl) (by simp) (by intro q hq; cases List.mem_singleton.1 hq; rfl) #[.map (some gm)] rfl ?_; intro w_ h6_ hg_; have HB_ := Lib.hid (bel_grown HB.out hg_ HG6.out HB.out.size); have HBX_ := Lib.hid (blk_grown HBX.out hg_ (fun h => by injection h with h; exact N6.out.1 h)); have HX_ := Lib.hid (blk_grown HX.out hg_ (fun h => by injection h with h; exact N6.out.2.1 h)); have HRC_ := Lib.hid (blk_grown HRC.out hg_ (fun h => by injection h with h; exact N6.out.2.2.1 h)); have HM_ := Lib.hid (show NdM _ gm ns from OwnM.grown HM.out hg_ (fun h => by injection h with h; exact N6.out.2.2.2 h)); clear HB HBX HX HRC HM; have HB := HB_; have HBX := HBX_; have HX := HX_; have HRC := HRC_; have HM := HM_; clear HB_ HBX_ HX_ HRC_ HM_; clear H6; have H6 := Lib.hid h6_; clear h6_ hg_; have cb0 := cel0 HBX.out 0 _ rfl; have cb1 := cel0 HBX.out 1 _ rfl; have lb := hlt HBX.out; have cx0 := cel0 HX.out 0 _ rfl; have cx1 := cel0 HX.out 1 _ rfl; have cx2 := cel0 HX.out 2 _ rfl; have cx3 := cel0 HX.out 3 _ rfl) | (go_at_call 49; (with_reducible refine (HBS.out _ HB.out).mono ?_); rintro e w_ ⟨rfl, hb⟩; clear cb0 cb1 lb cx0 cx1 cx2 cx3; have HB_ := Lib.hid (below_step HB.out hb); have HBX_ := Lib.hid (hep HBX.out hb); have HX_ := Lib.hid (hep HX.out hb); have HRC_ := Lib.hid (hep HRC.out hb); have HM_ := Lib.hid (show NdM _ gm ns from OwnM.below HM.out hb); have H6_ := Lib.hid (hep H6.out hb); clear HB HBX HX HRC HM H6; have HB := HB_; have HBX := HBX_; have HX := HX_; have HRC := HRC_; have HM := HM_; have H6 := H6_; clear HB_ HBX_ HX_ HRC_ HM_ H6_; clear hb; have cb0 := cel0 HBX.out 0 _ rfl; have cb1 := cel0 HBX.out 1 _ rfl; have lb := hlt HBX.out; have cx0 := cel0 HX.out 0 _ rfl; have cx1 := cel0 HX.out 1 _ rfl; have cx2 := cel0 HX.out 2 _ rfl; have cx3 := cel0 HX.out 3 _ rfl; have c6 := cel0 H6.out 0 _ rfl) | (go_at_call 41; (with_reducible refine (HEN.out _ gm HM.out).mono ?_); rintro e w_ ⟨rfl, hb⟩; clear cb0 cb1 lb cx0 cx1 cx2 cx3; clear c6; have HB_ := Lib.hid (below_step HB.out hb); have HBX_ := Lib.hid (hep HBX.out hb); have HX_ := Lib.hid (hep HX.out hb); have HRC_ := Lib.hid (hep HRC.out hb); have HM_ := Lib.hid (show NdM _ gm ns from OwnM.below HM.out hb); have H6_ := Lib.hid (hep H6.out hb); clear HB HBX HX HRC HM H6; have HB := HB_; have HBX := HBX_; have HX := HX_; have HRC := HRC_; have HM := HM_; have H6 := H6_; clear HB_ HBX_ HX_ HRC_ HM_ H6_; clear hb; have cb0 := cel0 HBX.out 0 _ rfl; have cb1 := cel0 HBX.out 1 _ rfl; have lb := hlt HBX.out; have cx0 := cel0 HX.out 0 _ rfl; have cx1 := cel0 HX.out 1 _ rfl; have cx2 := cel0 HX.out 2 _ rfl; have cx3 := cel0 HX.out 3 _ rfl; have c6 := cel0 H6.out 0 _ rfl) | (go_at_call 50; (with_reducible refine (HCF.out _ gm g6 gx HM.out H6.out HX.out HB.out).mono ?_); rintro e w_ ⟨rfl, hb⟩; clear cb0 cb1 lb cx0 cx1 cx2 cx3; clear c6; have HB_ := Lib.hid (below_step HB.out hb); have HBX_ := Lib.hid (hep HBX.out hb); have HX_ := Lib.hid (hep HX.out hb); have HRC_ := Lib.hid (hep HRC.out hb); have HM_ := Lib.hid (show NdM _ gm ns from OwnM.below HM.out hb); have H6_ := Lib.hid (hep H6.out hb); clear HB HBX HX HRC HM H6; have HB := HB_; have HBX := HBX_; have HX := HX_; have HRC := HRC_; have HM := HM_; have H6 := H6_; clear HB_ HBX_ HX_ HRC_ HM_ H6_; clear hb; have cb0 := cel0 HBX.out 0 _ rfl; have cb1 := cel0 HBX.out 1 _ rfl; have lb := hlt HBX.out; have cx0 := cel0 HX.out 0 _ rfl; have cx1 := cel0 HX.out 1 _ rfl; have cx2 := cel0 HX.out 2 _ rfl; have cx3 := cel0 HX.out 3 _ rfl) | (go_at_call 52; (with_reducible refine (Go.Proofs.Ytcbpghpfdjfddaa.Q.graph_own.calls A c ns A2 c2 ls ns ls _ (HR.out.below HB.out).c HR.out.le (HR2.out.below HB.out).c HR2.out.le HOWN.out).mono ?_); rintro e w_ ⟨v0_, v1_, rfl, ho0, ho1, hb⟩; clear cb0 cb1 lb cx0 cx1 cx2 cx3; obtain ⟨A0_, c0_, rfl⟩ := Kd.R_slice ho0; obtain ⟨A1_, c1_, rfl⟩ := Kd.R_slice ho1; have HO0 := Lib.hid (Kd.R_lower ho0 HB.out.size); have HO1 := Lib.hid (Kd.R_lower ho1 HB.out.size); have HB_ := Lib.hid (below_step HB.out hb); have HX_ := Lib.hid (hep HX.out hb); have HRC_ := Lib.hid (hep HRC.out hb); clear HB HX HRC; have HB := HB_; have HX := HX_; have HRC := HRC_; clear HB_ HX_ HRC_; clear HM H6 HBX ho0 ho1 hb) | ((with_reducible refine gate_dst (N := 9) rfl ?_); refine box_event ?hg (N := 9) ?hd (cs := #[.slice none 0 0, .slice none 0 0]) (t := 25) ?hr ?_; (case hd => rfl); (case hg => rfl); (case hr => first | (go_simp; done) | (go_simp; rfl)); intro g9 hg_ w9 hbox hb; have HG9 := Lib.hid (show w.heap.size ≤ g9 by rw [hg_]; exact HB.out.size); have N9 := Lib.hid (show gx ≠ g9 ∧ gr ≠ g9 from ⟨by rw [hg_]; exact Nat.ne_of_lt (hlt HX.out), by rw [hg_]; exact Nat.ne_of_lt (hlt HRC.out)⟩); have HB_ := Lib.hid (below_step HB.out hb); have HX_ := Lib.hid (hep HX.out hb); have HRC_ := Lib.hid (hep HRC.out hb); have HO0_ := Lib.hid (Kd.R_below HO0.out hb); have HO1_ := Lib.hid (Kd.R_below HO1.out hb); clear HB HX HRC HO0 HO1; have HB := HB_; have HX := HX_; have HRC := HRC_; have HO0 := HO0_; have HO1 := HO1_; clear HB_ HX_ HRC_ HO0_ HO1_; have H9 := Lib.hid hbox; clear hbox hb hg_) | ((with_reducible refine gate_store (t := 25) (p := 9) rfl ?_); refine wpList_put rfl rfl 25 _ _ rfl (off := 0) (cur := #[.slice none 0 0, .slice none 0 0]) H9.out (by rfl) (.agg #[(.slice A0_ ns.length c0_), (.slice A1_ ls.length c1_)]) (by rfl) [(.slice A0_ ns.length c0_), (.slice A1_ ls.length c1_)] rfl (by kernel_rfl) (by simp) (two_cells _ _ _ _ _ _) #[(.slice A0_ ns.length c0_), (.slice A1_ ls.length c1_)] rfl ?_; intro w_ h9_ hg_; have HB_ := Lib.hid (bel_grown HB.out hg_ HG9.out HB.out.size); have HX_ := Lib.hid (blk_grown HX.out hg_ (fun h => by injection h with h; exact N9.out.1 h)); have HRC_ := Lib.hid (blk_grown HRC.out hg_ (fun h => by injection h with h; exact N9.out.2 h)); have HO0_ := Lib.hid (Kd.R_grown2 HO0.out rfl hg_ (fun k_ hk_ => by injection hk_ with hk_; subst hk_; exact Kd.R_ne HO0.out H9.out (by decide))); have HO1_ := Lib.hid (Kd.R_grown2 HO1.out rfl hg_ (fun k_ hk_ => by injection hk_ with hk_; subst hk_; exact Kd.R_ne HO1.out H9.out (by decide))); clear HB HX HRC HO0 HO1; have HB := HB_; have HX := HX_; have HRC := HRC_; have HO0 := HO0_; have HO1 := HO1_; clear HB_ HX_ HRC_ HO0_ HO1_; clear H9; have H9 := Lib.hid h9_; clear h9_ hg_; have c91 := cel0 H9.out 1 _ rfl; have lb9 := hlt H9.out; have cx0 := cel0 HX.out 0 _ rfl; have cx1 := cel0 HX.out 1 _ rfl; have cx2 := cel0 HX.out 2 _ rfl; have cx3 := cel0 HX.out 3 _ rfl) | ((with_reducible refine gate_dst (N := 50) rfl ?_); refine Kd.R_lit kL _ 45 ?hg (N := 50) ?hd (xs := ([x] : List Lk)) (inner := [.int .i64 x.f0, .int .i64 x.f1, .int .i64 x.f2, .int .i64 x.f3]) (ok := fun _ => True) (okp := fun _ => True) ?hr ?hp (fun _ hk => hk) trivial (Below.refl _ _) (Nat.le_refl _) (by simp) ?_; (case hd => rfl); (case hg => rfl); (case hr => first | (go_simp; done) | (go_simp; rfl)); (case hp => exact (Reps.c4 (show Kd.M kL _ _ _ x [.int .i64 x.f0, .int .i64 x.f1, .int .i64 x.f2, .int .i64 x.f3] from (k45_mkM _ _ _ x)) (Reps.none _ _))); intro vl w_ hol hb hg_ hnew_; clear hg_ hnew_; obtain ⟨Al, cl, rfl⟩ := Kd.R_slice hol; have HL := Lib.hid (Kd.R_new' hol (Kd.R_lt HO1.out)); clear hol c91 lb9 cx0 cx1 cx2 cx3; have HB_ := Lib.hid (below_step HB.out hb); have HX_ := Lib.hid (hep HX.out hb); have HRC_ := Lib.hid (hep HRC.out hb); have HO0_ := Lib.hid (Kd.R_below HO0.out hb); have HO1_ := Lib.hid (Kd.R_below HO1.out hb); have H9_ := Lib.hid (hep H9.out hb); clear HB HX HRC HO0 HO1 H9; have HB := HB_; have HX := HX_; have HRC := HRC_; have HO0 := HO0_; have HO1 := HO1_; have H9 := H9_; clear HB_ HX_ HRC_ HO0_ HO1_ H9_; clear hb) | (go_at_call 53; (refine (slices_Insert_L.calls (fun k_ => some k_ = ((.slice A1_ ls.length c1_) : Value).ownBlock) (.slice A1_ ls.length c1_) ls (k : Int) Al cl [x] out w _ HB.out (Kd.R_tight rfl HO1.out) (Kd.C_kept_own HL.out (fun k_ hk_ hs_ => absurd hs_ hk_.2)) (Kd.R_reads' HL.out).2.1 HINS.out).mono ?_); rintro e w_ ⟨v2_, rfl, ho2, hb, hkp⟩; have HRC_ := Lib.hid (blk_kept HRC.out hkp (fun hs_ => Kd.R_ne HO1.out HRC.out (by decide) hs_)); have H9_ := Lib.hid (blk_kept H9.out hkp (fun hs_ => Kd.R_ne HO1.out H9.out (by decide) hs_)); have HO0_ := Lib.hid (Kd.R_mono (ok' := fun _ => True) (Kd.R_keptB (Kd.R_apart' HO0.out (Kd.R_typed HO1.out) (by decide)) hkp (fun k_ hk_ hs_ => hk_.2 hs_)) (fun _ _ => trivial)); have HO1_ := Lib.hid (Kd.R_mono (ok' := fun _ => True) ho2 (fun _ _ => trivial)); clear HB HX HRC H9 HO0 HO1 HL; have HB := Lib.hid hb; have HRC := HRC_; have H9 := H9_; have HO0 := HO0_; have HO1 := HO1_; clear HRC_ H9_ HO0_ HO1_ hb hkp ho2; obtain ⟨A3_, c3_, rfl⟩ := Kd.R_slice HO1.out; have lb9 := hlt H9.out) | ((with_reducible refine gate_store (t := 23) (p := 52) rfl ?_); refine wpList_put rfl rfl 23 _ _ rfl (off := 1) (cur := #[(.slice A0_ ns.length c0_), (.slice A1_ ls.length c1_)]) H9.out (by rfl) (.slice A3_ out.length c3_) (by rfl) [(.slice A3_ out.length c3_)] rfl (by kernel_rfl) (by simp) (by intro q hq; cases List.mem_singleton.1 hq; rfl) #[(.slice A0_ ns.length c0_), (.slice A3_ out.length c3_)] rfl ?_; intro w16 h9_ hg_; have HB_ := Lib.hid (bel_grown HB.out hg_ HG9.out HB.out.size); have HRC_ := Lib.hid (blk_grown HRC.out hg_ (fun h => by injection h with h; exact N9.out.2 h)); have HO0_ := Lib.hid (Kd.R_grown2 HO0.out rfl hg_ (fun k_ hk_ => by injection hk_ with hk_; subst hk_; exact Kd.R_ne HO0.out H9.out (by decide))); have HO1_ := Lib.hid (Kd.R_grown2 HO1.out rfl hg_ (fun k_ hk_ => by injection hk_ with hk_; subst hk_; exact Kd.R_ne HO1.out H9.out (by decide))); clear HB HRC HO0 HO1; have HB := HB_; have HRC := HRC_; have HO0 := HO0_; have HO1 := HO1_; clear HB_ HRC_ HO0_ HO1_; clear H9 lb9; have H9 := Lib.hid h9_; clear h9_ hg_; have c90 := cel0 H9.out 0 _ rfl; have c91 := cel0 H9.out 1 _ rfl; have lb9 := hlt H9.out; have RN := Lib.hid (show Rd kN w16 A0_ c0_ ns from ⟨(Kd.R_reads' HO0.out).2.2, (Kd.R_reads' HO0.out).2.1⟩); have RL := Lib.hid (show Rd kL w16 A3_ c3_ out from ⟨(Kd.R_reads' HO1.out).2.2, (Kd.R_reads' HO1.out).2.1⟩)))
  refine start_ (n := 7) (S := fun w' => Below w16.heap.size w16 w') (ds := []) #[false, false, false, false, false, false, false] (by kernel_rfl) rfl rfl (below_drew1 (Below.refl _ _)) (fun hHeld => ?_)
  generalize World.drew w16 = wq_ at hHeld ⊢
  refine take_ (i := 0) (N := some 53) (v := ?_) (a' := ?_) #[true, false, false, false, false, false, false] rfl rfl (by kernel_rfl) (fun _ _ _ h => h) (Or.inl ⟨by rfl, ?_⟩) hHeld ?_ ?_
  rotate_left
  · intro w' hb_
    have k0_ := cellB hb_ c90
    have k1_ := cellB hb_ c91
    go_simp
    with_reducible rfl
  rotate_left
  · simp only [Act.put, List.setIfInBounds_toArray, List.set_cons_zero, List.set_cons_succ, i64_w, i32_w]
    rfl
  refine pure_ (i := 3) (N := some 56) (v := ?_) (a' := ?_) #[true, false, false, true, false, false, false] rfl rfl (by kernel_rfl) (fun _ _ _ h => h) (Or.inl ⟨by rfl, ?_⟩) ?_ ?_
  rotate_left
  · intro w'
    go_simp
    with_reducible rfl
  rotate_left
  · simp only [Act.put, List.setIfInBounds_toArray, List.set_cons_zero, List.set_cons_succ, i64_w, i32_w]
    rfl
  refine take_ (i := 4) (N := some 57) (v := ?_) (a' := ?_) #[true, false, false, true, true, false, false] rfl rfl (by kernel_rfl) (fun _ _ _ h => h) (Or.inl ⟨by rfl, ?_⟩) hHeld ?_ ?_
  rotate_left
  · intro w' hb_
    have k0_ := cellB hb_ c90
    go_simp
    with_reducible rfl
  rotate_left
  · simp only [Act.put, List.setIfInBounds_toArray, List.set_cons_zero, List.set_cons_succ, i64_w, i32_w]
    rfl
  refine pure_ (i := 5) (N := some 58) (v := ?_) (a' := ?_) #[true, false, false, true, true, true, false] rfl rfl (by kernel_rfl) (fun _ _ _ h => h) (Or.inl ⟨by rfl, ?_⟩) ?_ ?_
  rotate_left
  · intro w'
    go_simp
    with_reducible rfl
  rotate_left
  · simp only [Act.put, List.setIfInBounds_toArray, List.set_cons_zero, List.set_cons_succ, i64_w, i32_w]
    rfl
  refine one_ (i := 1) (N := some 54) #[true, true, false, true, true, true, false] rfl rfl (by kernel_rfl) (by decide) (fun K hK => ?_)
  refine goes_ Try.func37 (by kernel_rfl) rfl #[.agg #[(.slice A0_ ns.length c0_), (.slice A3_ out.length c3_)]] (by rfl) rfl rfl (by (try simp only [List.map_toArray, List.map_cons, List.map_nil]); first | done | rfl) ?_
  refine (HORD.out _ A0_ c0_ A3_ c3_ (RN.out.below hHeld) (RL.out.below hHeld)).mono ?_
  rintro e w1_ ⟨sv, rfl, hsv, hb1_⟩
  obtain ⟨Av, cv, rfl⟩ := Go.Proofs.YtcbpghpfdjfddaaW.PrintWords.Kd.R_slice hsv
  refine ⟨_, rfl, ?_⟩
  refine hK.out _ _ (below_step hHeld hb1_) (fun hHeld => ?_)
  clear hb1_ hsv
  clear hK K
  refine norm_ (a' := ?_) ?_ ?_
  rotate_left
  · show Act.put _ (some 54) _ = _
    simp only [Act.put, List.setIfInBounds_toArray, List.set_cons_zero, List.set_cons_succ, i64_w, i32_w]
    rfl
  refine pure_ (i := 2) (N := some 55) (v := ?_) (a' := ?_) #[true, true, true, true, true, true, false] rfl rfl (by kernel_rfl) (fun _ _ _ h => h) (Or.inl ⟨by rfl, ?_⟩) ?_ ?_
  rotate_left
  · intro w'
    go_simp
    with_reducible rfl
  rotate_left
  · simp only [Act.put, List.setIfInBounds_toArray, List.set_cons_zero, List.set_cons_succ, i64_w, i32_w]
    rfl
  refine pure_ (i := 6) (N := some 59) (v := ?_) (a' := ?_) #[true, true, true, true, true, true, true] rfl rfl (by kernel_rfl) (fun _ _ _ h => h) (Or.inl ⟨by rfl, ?_⟩) ?_ ?_
  rotate_left
  · intro w'
    go_simp
    try rw [dlt]
    all_goals with_reducible rfl
  rotate_left
  · simp only [Act.put, List.setIfInBounds_toArray, List.set_cons_zero, List.set_cons_succ, i64_w, i32_w]
    rfl
  refine done_ (by kernel_rfl) ?_
  have HB_ := Lib.hid (below_step HB.out hHeld)
  have HRC_ := Lib.hid (hep HRC.out hHeld)
  have H9_ := Lib.hid (hep H9.out hHeld)
  have HO0_ := Lib.hid (Kd.R_below HO0.out hHeld)
  have HO1_ := Lib.hid (Kd.R_below HO1.out hHeld)
  clear HB HRC H9 HO0 HO1 hHeld c90 c91 lb9
  have HB := HB_
  have HRC := HRC_
  have H9 := H9_
  have HO0 := HO0_
  have HO1 := HO1_
  clear HB_ HRC_ H9_ HO0_ HO1_
  have c90 := cel0 H9.out 0 _ rfl
  have c91 := cel0 H9.out 1 _ rfl
  go_wp2_with (first | ((with_reducible refine gate_store (t := 25) (p := 4) rfl ?_); refine wpList_put rfl rfl 25 _ _ rfl (off := 0) (cur := #[.slice none 0 0, .slice none 0 0]) HRC.out (by rfl) (.agg #[(.slice A0_ ns.length c0_), (.slice A3_ out.length c3_)]) (by rfl) [(.slice A0_ ns.length c0_), (.slice A3_ out.length c3_)] rfl (by kernel_rfl) (by simp) (two_cells _ _ _ _ _ _) #[(.slice A0_ ns.length c0_), (.slice A3_ out.length c3_)] rfl ?_; intro w_ hrc_ hg_; have HB_ := Lib.hid (bel_grown HB.out hg_ HGR.out HB.out.size); have HO0_ := Lib.hid (Kd.R_grown2 HO0.out rfl hg_ (fun k_ hk_ => by injection hk_ with hk_; subst hk_; exact Kd.R_ne HO0.out HRC.out (by decide))); have HO1_ := Lib.hid (Kd.R_grown2 HO1.out rfl hg_ (fun k_ hk_ => by injection hk_ with hk_; subst hk_; exact Kd.R_ne HO1.out HRC.out (by decide))); clear HB HRC HO0 HO1; have HB := HB_; have HRC := Lib.hid hrc_; have HO0 := HO0_; have HO1 := HO1_; clear HB_ HO0_ HO1_ hrc_ hg_))
  refine bodyPost_ret (results_ct rfl _ _ gr 25 #[(.slice A0_ ns.length c0_), (.slice A3_ out.length c3_)] (0, 0) _ rfl HRC.out Try.underlying25 rfl (by kernel_rfl)) rfl ?_
  exact ⟨_, _, rfl, HO0.out, HO1.out, HB.out⟩
end Go.Proofs.YtcbpghpfdjfddaaG
-- Declarations of the text that this claim uses (slim.py, a program of this session).
namespace Go.Proofs.YtcbpghpfdjfddaaG
open Go Go.RowKit Go.Proofs.YtcbpghpfdjfddaaMp Go.Proofs.Ytcbpghpfdjfddaa.Q Go.Proofs.YtcbpghpfdjfddaaW.PrintWords Go.Proofs.YtcbpghpfdjfddaaW.PrintLast Go.Proofs.YtcbpghpfdjfddaaW.PrintMore
set_option linter.unusedVariables false
theorem bsIL_le (cf : Lk → Int) (l : List Lk) : ∀ (k i j : Nat), i ≤ j → i ≤ bsIL cf l k i j ∧ bsIL cf l k i j ≤ j
  | 0, i, j, h => ⟨Nat.le_refl i, h⟩
  | k + 1, i, j, h => by
    unfold bsIL
    split
    · rename_i hlt
      have hm1 : i ≤ (i + j) / 2 := by omega
      have hm2 : (i + j) / 2 < j := by omega
      split
      · have := bsIL_le cf l k ((i + j) / 2 + 1) j (by omega)
        omega
      · have := bsIL_le cf l k i ((i + j) / 2) hm1
        omega
    · exact ⟨Nat.le_refl i, h⟩
def bsx (ls : List Lk) (x : Lk) : Nat := bsIL (fun y => cmpL y x) ls ls.length 0 ls.length
def fndB (ls : List Lk) (x : Lk) : Bool := decide (bsx ls x < ls.length) && decide (cmpL (ls.getD (bsx ls x) z45) x = 0)
def insF (ls : List Lk) (x : Lk) : List Lk := ls.take (bsx ls x) ++ [x] ++ ls.drop (bsx ls x)
theorem bsx_le (ls : List Lk) (x : Lk) : bsx ls x ≤ ls.length := (bsIL_le _ ls _ 0 ls.length (Nat.zero_le _)).2
theorem insF_length (ls : List Lk) (x : Lk) : (insF ls x).length = ls.length + 1 := by
  have := bsx_le ls x
  unfold insF
  simp only [List.length_append, List.length_take, List.length_drop, List.length_singleton]
  omega
theorem insF_mem {ls : List Lk} {x l : Lk} (h : l ∈ insF ls x) : l ∈ ls ∨ l = x := by
  unfold insF at h
  simp only [List.mem_append, List.mem_singleton] at h
  rcases h with (h | h) | h
  · exact .inl (List.mem_of_mem_take h)
  · exact .inr h
  · exact .inl (List.mem_of_mem_drop h)
def connF (ns : List Nd) (ls : List Lk) (x : Lk) : List Nd × List Lk × Int :=
  if validF ns ls = true then (if endsB ns x = true then (if fndB ls x = true then ([], [], 8) else if ls.length = 256 then ([], [], 3) else if (ls.any fun k => clashB ns k x) = true then ([], [], 10) else if (ordF ns (insF ls x)).length < ns.length then ([], [], 12) else (ns, insF ls x, 0)) else ([], [], 7)) else ([], [], 1)
theorem validF_len {ns : List Nd} {ls : List Lk} (h : validF ns ls = true) : ns.length ≤ 64 ∧ ls.length ≤ 256 := by
  unfold validF at h
  rw [Bool.and_eq_true] at h
  exact of_decide_eq_true h.1
theorem connect_calls (A : Option Addr) (c : Nat) (ns : List Nd) (A2 : Option Addr) (c2 : Nat) (ls : List Lk) (x : Lk) (w : World) (hr : Rd kN w A c ns) (hr2 : Rd kL w A2 c2 ls) (hnw : ∀ n ∈ ns, wf n.f0) (hlw : ∀ l ∈ ls, wf l.f0 ∧ wf l.f2) (h0 : wf x.f0) (h2 : wf x.f2) :
    Calls Try.prog 24 #[.agg #[.slice A ns.length c, .slice A2 ls.length c2], vL x] w fun e w' => ∃ v0_ v1_ : Value, e = .returned (.tuple #[.agg #[v0_, v1_], .int .i64 (connF ns ls x).2.2]) ∧ Kd.R kN 43 w' w.heap.size (fun _ => True) v0_ (connF ns ls x).1 ∧ Kd.R kL 45 w' w.heap.size (fun _ => True) v1_ (connF ns ls x).2.1 ∧ Below w.heap.size w w' := by
  have HV := fun (W : World) (hb : Below w.heap.size w W) => valid_calls A c ns A2 c2 ls W (hr.below hb) (hr2.below hb) hnw hlw
  unfold connF
  cases hv : validF ns ls
  · rw [hv] at HV
    rw [if_neg (by simp)]
    exact conn1 A c ns A2 c2 ls x w (Lib.hid hr) (Lib.hid hr2) (Lib.hid HV)
  rw [hv] at HV
  rw [if_pos rfl]
  obtain ⟨hn64, hl256⟩ := validF_len hv
  have HNW := Lib.hid hnw
  have HN1 := Lib.hid (show ns.length ≤ 1000000 by omega)
  have HBS := fun (W : World) (hb : Below w.heap.size w W) => bsL_calls 42 #[] x (fun y => cmpL y x) A2 c2 ls W (hr2.below hb).c hr2.le (Go.Proofs.enters_of Try.func42 (by kernel_rfl) rfl) (fun y W' _ => compare_calls y x W')
  replace HBS : ∀ W, Below w.heap.size w W → Calls Try.prog 49 #[.slice A2 ls.length c2, .agg #[.int .i64 x.f0, .int .i64 x.f1, .int .i64 x.f2, .int .i64 x.f3], .func (.func 42) #[] #[]] W fun e w' => e = .returned (.tuple #[.int .i64 (bsx ls x : Nat), .bool (fndB ls x)]) ∧ Below W.heap.size W w' := HBS
  have HEN := fun (W : World) (gm : Nat) (hm : NdM W gm ns) => ends_calls gm ns x W hm h0 h2
  cases he : endsB ns x
  · rw [he] at HEN
    rw [if_neg (by simp)]
    exact conn7 A c ns A2 c2 ls x w (Lib.hid hr) (Lib.hid hr2) (Lib.hid HV) HNW HN1 (fndB ls x) (bsx ls x) (Lib.hid HBS) (Lib.hid HEN)
  rw [he] at HEN
  rw [if_pos rfl]
  cases hf : fndB ls x
  rotate_left
  · rw [hf] at HBS
    rw [if_pos rfl]
    exact conn8 A c ns A2 c2 ls x w (Lib.hid hr) (Lib.hid hr2) (Lib.hid HV) HNW HN1 (bsx ls x) (Lib.hid HBS) (Lib.hid HEN)
  rw [hf] at HBS
  rw [if_neg (by simp)]
  by_cases h256 : ls.length = 256
  · rw [if_pos h256]
    exact conn3 A c ns A2 c2 ls x w (Lib.hid hr) (Lib.hid hr2) (Lib.hid HV) HNW HN1 (bsx ls x) (Lib.hid HBS) (Lib.hid HEN) h256
  rw [if_neg h256]
  have HCF := fun (W : World) (gm g6 gx : Nat) (hm : NdM W gm ns) (h6 : W.heap[g6]? = some (.cells #[.map (some gm)] 64 (0, 0))) (hx : W.heap[gx]? = some (.cells #[.int .i64 x.f0, .int .i64 x.f1, .int .i64 x.f2, .int .i64 x.f3] 45 (0, 0))) (hb : Below w.heap.size w W) =>
    containsF_calls 51 #[.pointer (some ⟨g6, 0, none⟩), .pointer (some ⟨gx, 0, none⟩)] (fun k => clashB ns k x) A2 c2 ls W (hr2.below hb) (by omega) (Go.Proofs.enters_of Try.func51 (by kernel_rfl) rfl)
      (fun z hz W' hb' => close_calls gm g6 gx ns z x W' (OwnM.below hm hb') (hep h6 hb') (hep hx hb') (hlw z hz).1 (hlw z hz).2)
  cases hc : ls.any fun k => clashB ns k x
  rotate_left
  · rw [hc] at HCF
    rw [if_pos rfl]
    exact conn10 A c ns A2 c2 ls x w (Lib.hid hr) (Lib.hid hr2) (Lib.hid HV) HNW HN1 (bsx ls x) (Lib.hid HBS) (Lib.hid HEN) h256 (Lib.hid HCF)
  rw [hc] at HCF
  rw [if_neg (by simp)]
  have hown : Go.Proofs.Ytcbpghpfdjfddaa.Q.graph_own.f ns ls = some (ns, ls) := by
    unfold graph_own.f slices_Clone_N.f slices_Clone_L.f
    rw [if_pos (by omega), if_pos (by omega)]
    rfl
  have hins : slices_Insert_L.f ls (bsx ls x : Nat) [x] = some (insF ls x) := by
    have := bsx_le ls x
    unfold slices_Insert_L.f insF
    rw [if_pos ⟨by omega, by omega, rfl, by omega⟩, Int.toNat_natCast]
  have hord := fun (W : World) (A0_ : Option Addr) (c0_ : Nat) (A3_ : Option Addr) (c3_ : Nat) (h1 : Rd kN W A0_ c0_ ns) (h3 : Rd kL W A3_ c3_ (insF ls x)) => order_calls A0_ c0_ ns A3_ c3_ (insF ls x) W h1 h3 (by omega) (by rw [insF_length]; omega) hnw (fun l hl => by rcases insF_mem hl with h | rfl; exact (hlw l h).2; exact h2)
  by_cases hlt_ : (ordF ns (insF ls x)).length < ns.length
  · rw [if_pos hlt_]
    exact conn12 A c ns A2 c2 ls x w (Lib.hid hr) (Lib.hid hr2) (Lib.hid HV) HNW HN1 (bsx ls x) (Lib.hid HBS) (Lib.hid HEN) h256 (Lib.hid HCF) (insF ls x) (Lib.hid hown) (Lib.hid hins) (Lib.hid hord) (decide_eq_true hlt_)
  · rw [if_neg hlt_]
    exact conn0 A c ns A2 c2 ls x w (Lib.hid hr) (Lib.hid hr2) (Lib.hid HV) HNW HN1 (bsx ls x) (Lib.hid HBS) (Lib.hid HEN) h256 (Lib.hid HCF) (insF ls x) (Lib.hid hown) (Lib.hid hins) (Lib.hid hord) (decide_eq_false hlt_)
end Go.Proofs.YtcbpghpfdjfddaaG
namespace Go.Proofs.Ytcbpghpfdjfddaa.Q
open Go Go.RowKit Go.Proofs.YtcbpghpfdjfddaaMp Go.Proofs.YtcbpghpfdjfddaaW.PrintWords Go.Proofs.YtcbpghpfdjfddaaW.PrintLast Go.Proofs.YtcbpghpfdjfddaaW.PrintMore
end Go.Proofs.Ytcbpghpfdjfddaa.Q
-- Declarations of the text that this claim uses (slim.py, a program of this session).
namespace Go.Proofs
open Go.Shelf
def Try.lays189_ren : Go.Shelf.Ren := ⟨fun | 189 => 48 | 125 => 70 | 257 => 69 | 128 => 88 | 129 => 89 | 294 => 79 | 295 => 80 | 296 => 81 | 297 => 82 | 298 => 83 | 299 => 84 | 216 => 85 | 300 => 86 | 301 => 87 | 328 => 92 | 329 => 93 | 330 => 94 | 331 => 95 | 332 => 96 | 215 => 76 | 343 => 99 | n => n, fun | 28 => 31 | 3 => 3 | 46 => 95 | 0 => 0 | 51 => 112 | 53 => 114 | 4 => 4 | 183 => 105 | 182 => 104 | 131 => 41 | 5 => 5 | 9 => 9 | 218 => 115 | 222 => 119 | 228 => 123 | 229 => 124 | n => n, fun | n => n⟩
theorem Try.lays189 : Go.Proofs.Lays.n189 Try.prog Try.lays189_ren := {
  mixed := by kernel_rfl
  f125 := Try.func70.trans (congrArg some (by kernel_rfl))
  f128 := Try.func88.trans (congrArg some (by kernel_rfl))
  f129 := Try.func89.trans (congrArg some (by kernel_rfl))
  f189 := Try.func48.trans (congrArg some (by kernel_rfl))
  f215 := Try.func76.trans (congrArg some (by kernel_rfl))
  f216 := Try.func85.trans (congrArg some (by kernel_rfl))
  f257 := Try.func69.trans (congrArg some (by kernel_rfl))
  f294 := Try.func79.trans (congrArg some (by kernel_rfl))
  f295 := Try.func80.trans (congrArg some (by kernel_rfl))
  f296 := Try.func81.trans (congrArg some (by kernel_rfl))
  f297 := Try.func82.trans (congrArg some (by kernel_rfl))
  f298 := Try.func83.trans (congrArg some (by kernel_rfl))
  f299 := Try.func84.trans (congrArg some (by kernel_rfl))
  f300 := Try.func86.trans (congrArg some (by kernel_rfl))
  f301 := Try.func87.trans (congrArg some (by kernel_rfl))
  f328 := Try.func92.trans (congrArg some (by kernel_rfl))
  f329 := Try.func93.trans (congrArg some (by kernel_rfl))
  f330 := Try.func94.trans (congrArg some (by kernel_rfl))
  f331 := Try.func95.trans (congrArg some (by kernel_rfl))
  f332 := Try.func96.trans (congrArg some (by kernel_rfl))
  f343 := Try.func99.trans (congrArg some (by kernel_rfl))
  t0 := Try.underlying0
  a0 := Try.isAgg0
  z0 := Try.sizeOf0
  v0 := Try.zeroValue0
  t3 := Try.underlying3
  a3 := Try.isAgg3
  z3 := Try.sizeOf3
  v3 := Try.zeroValue3
  t4 := Try.underlying4
  a4 := Try.isAgg4
  z4 := Try.sizeOf4
  v4 := Try.zeroValue4
  t5 := Try.underlying5
  a5 := Try.isAgg5
  z5 := Try.sizeOf5
  v5 := Try.zeroValue5
  t9 := Try.underlying9
  a9 := Try.isAgg9
  z9 := Try.sizeOf9
  v9 := Try.zeroValue9
  t28 := Try.underlying31
  a28 := Try.isAgg31
  z28 := Try.sizeOf31
  v28 := Try.zeroValue31
  t46 := Try.underlying95
  a46 := Try.isAgg95
  z46 := Try.sizeOf95
  v46 := Try.zeroValue95
  t51 := Try.underlying112
  a51 := Try.isAgg112
  z51 := Try.sizeOf112
  v51 := Try.zeroValue112
  t53 := Try.underlying114
  a53 := Try.isAgg114
  z53 := Try.sizeOf114
  v53 := Try.zeroValue114
  t131 := Try.underlying41
  a131 := Try.isAgg41
  z131 := Try.sizeOf41
  v131 := Try.zeroValue41
  t182 := Try.underlying104
  a182 := Try.isAgg104
  z182 := Try.sizeOf104
  v182 := Try.zeroValue104
  t183 := Try.underlying105
  a183 := Try.isAgg105
  z183 := Try.sizeOf105
  v183 := Try.zeroValue105
  t218 := Try.underlying115
  a218 := Try.isAgg115
  z218 := Try.sizeOf115
  v218 := Try.zeroValue115
  t222 := Try.underlying119
  a222 := Try.isAgg119
  z222 := Try.sizeOf119
  v222 := Try.zeroValue119
  t228 := Try.underlying123
  a228 := Try.isAgg123
  z228 := Try.sizeOf123
  v228 := Try.zeroValue123
  t229 := Try.underlying124
  a229 := Try.isAgg124
  z229 := Try.sizeOf124
  v229 := Try.zeroValue124 }
open Go.Sort Go.RowKit in
theorem Try.slices_Sort_int (blk off cap : Nat) (zs : List Int) (w : World) (hH : Holds (Value.int .i64) w blk off zs.toArray) (hblk : blk < w.heap.size) (hsz : zs.length < 4611686018427387904) :
    Calls Try.prog 48 #[.slice (some ⟨blk, off, none⟩) zs.length cap] w fun e w' =>
      e = .returned (.tuple #[]) ∧ ∃ n os, w' = grow (putRow (Value.int .i64) (Sort.ahead w n) blk off (zs.mergeSort fun x y => decide (x ≤ y)).toArray) os := Any.slices_Sort_int Try.lays189 blk off cap zs w hH hblk hsz
open Go.RowKit Go.Sort in
theorem Try.slices_Sort_int_none (p : Option Addr) (cap : Nat) (w : World) :
    Calls Try.prog 48 #[.slice p 0 cap] w fun e w' => e = .returned (.tuple #[]) ∧ w' = w := Any.slices_Sort_int_none Try.lays189 p cap w
end Go.Proofs
