import Derived.Test.YtcbpghpfdjfddaaY4
import Derived.Lib.OwnBridge
import Derived.Lib.SortBridge
import Derived.WalkKit
import Derived.KernelRfl
import Derived.Below
import Derived.Orders
import Derived.Lib.Hide
import Derived.Test.YtcbpghpfdjfddaaY1
import Derived.Laws.CopyRow
import Derived.Laws.Cells
import Derived.Laws.Slices
import Derived.Maps.AppendAt
import Derived.Laws.StructEq
import Derived.Laws.Tables
import Derived.Deep.Upon
-- Declarations of the text that this claim uses (slim.py, a program of this session).
namespace Go.Proofs.YtcbpghpfdjfddaaG
open Go Go.RowKit Go.Proofs.YtcbpghpfdjfddaaMp Go.Proofs.Ytcbpghpfdjfddaa.Q Go.Proofs.YtcbpghpfdjfddaaW.PrintWords Go.Proofs.YtcbpghpfdjfddaaW.PrintLast Go.Proofs.YtcbpghpfdjfddaaW.PrintMore
set_option linter.unusedVariables false
set_option linter.unusedSimpArgs false
theorem wpList_insert {P : Program} {k t e : TypeId} {w : World} {ops : Array Oper} {rest : List Oper} {o : Oper} {a : Act} {Q : Exit → Act → World → Prop}
    (hg : o.guard = none) (m x v : Operand) (hop : o.op = Op.insert t m x v) (hk : P.underlying k = some (.int .i64)) (ht : P.underlying t = some (.map k e)) (b n : Nat) (f : Int → Option Value)
    (hm : a.eval m = .map (some b)) (hown : OwnM P k w b n f) (hn : n < maxLen) (key : Int) (val : Value) (hx : a.eval x = .int .i64 key) (hv : a.eval v = val) (hwf : (Lit.int .i64 key).wf = true)
    (hK : ∀ w', OwnM P k w' b (n + 1) (fun y => if y = key then some val else f y) → w.grownBy w' (some b) → wpList P ops Q rest (a.put o.dst undef) w') :
    wpList P ops Q (o :: rest) a w := by
  refine wpList_plain hg fun K' hK' => ?_
  obtain ⟨w', hrun, r1, r2⟩ := hown.store hk ht hn key hwf val
  unfold Oper.wp
  simp [execOp, hop, hm, hx, hv, hrun, Result.andThen]
  exact hK' _ _ (hK w' r1 r2)
def dn (id : Int) (out : List Int) (x : Int) : Bool := decide (x = id) || out.contains x
def inn (id n : Int) : List Lk → List Int → List Int
  | [], out => out
  | l :: r, out => inn id n r (if (decide (l.f0 = n) && (dn id out n && !dn id out l.f2)) = true then out ++ [l.f2] else out)
def rch (id : Int) (ls : List Lk) : List Int → List Int → List Int
  | [], out => out
  | n :: r, out => rch id ls r (inn id n ls out)
theorem inn_cons (id n : Int) (l : Lk) (r : List Lk) (out : List Int) : inn id n (l :: r) out = inn id n r (if (decide (l.f0 = n) && (dn id out n && !dn id out l.f2)) = true then out ++ [l.f2] else out) := rfl
theorem rch_cons (id : Int) (ls : List Lk) (n : Int) (r out : List Int) : rch id ls (n :: r) out = rch id ls r (inn id n ls out) := rfl
theorem dn_snoc (id : Int) (out : List Int) (y x : Int) : dn id (out ++ [y]) x = if x = y then true else dn id out x := by
  unfold dn
  rw [List.contains_append]
  by_cases h : x = y <;> simp [h]
def srt (l : List Int) : List Int := l.mergeSort fun x y => decide (x ≤ y)
theorem srt_len (l : List Int) : (srt l).length = l.length := by unfold srt; exact List.length_mergeSort l
def reachF (ns : List Nd) (ls : List Lk) (id : Int) : List Int := if validF ns ls = true then srt (rch id ls (ordF ns ls) []) else []
theorem ordR_mem (ns : List Nd) (ls : List Lk) (p : Int → Prop) (hp : ∀ n ∈ ns, p n.f0) : ∀ (k : Nat) (d : Int → Bool) (W : Int → Option Int) (out : List Int), (∀ x ∈ out, p x) → k + out.length ≤ ns.length → ∀ x ∈ ordR ns ls k d W out, p x
  | 0, _, _, out, h, _, x, hx => h x hx
  | k + 1, d, W, out, h, hk, x, hx => by
    unfold ordR at hx
    split at hx
    · exact h x hx
    · rename_i hneg
      refine ordR_mem ns ls p hp k _ _ _ ?_ ?_ x hx
      · intro y hy
        rcases List.mem_append.1 hy with hy | hy
        · exact h y hy
        · rw [List.mem_singleton] at hy
          subst hy
          have hle := ixF_le (freeB d W) ns 0
          have hlt : (ixF (freeB d W) 0 ns).toNat < ns.length := by omega
          have he : ns.getD (ixF (freeB d W) 0 ns).toNat ⟨0, 0, 0, 0⟩ = ns[(ixF (freeB d W) 0 ns).toNat] := by simp [hlt]
          rw [he]
          exact hp _ (List.getElem_mem hlt)
      · simp only [List.length_append, List.length_singleton]; omega
theorem ordF_mem (ns : List Nd) (ls : List Lk) (p : Int → Prop) (hp : ∀ n ∈ ns, p n.f0) : ∀ x ∈ ordF ns ls, p x := ordR_mem ns ls p hp _ _ _ [] (by simp) (by simp)
theorem sort_calls (v : Value) (ok : Nat → Prop) (base : Nat) (l : List Int) (w0 w : World) (hb : Below w0.heap.size w0 w) (hbase : w0.heap.size ≤ base) (hl : l.length ≤ 1000000) (hr : Kd.R (Kd.int .i64) 3 w base ok v l) :
    Calls Try.prog 48 #[v] w fun e w' => e = .returned (.tuple #[]) ∧ Below w0.heap.size w0 w' ∧ Kd.R (Kd.int .i64) 3 w' w0.heap.size (fun _ => True) v (srt l) := by
  have ho := Kd.own_of_R (enc := Value.int .i64) (h1 := fun _ => rfl) (Kd.R_lower hr hbase)
  by_cases hn : v = .slice none 0 0
  · subst hn
    obtain ⟨_, _, e⟩ := Kd.R_slice hr
    injection e with _ e _
    have h0 : l = [] := List.length_eq_zero_iff.1 e.symm
    subst h0
    refine (Try.slices_Sort_int_none none 0 w).mono ?_
    rintro e w' ⟨rfl, rfl⟩
    have e0 : srt [] = [] := List.length_eq_zero_iff.1 (srt_len [])
    rw [e0]
    exact ⟨rfl, hb, Kd.R_nil _ _ _ _ _⟩
  · obtain ⟨g, cap, e, hg, hlt, _, _, _, hH⟩ := Lib.holds_of_ownsRow (zs := l) ho hn
    subst e
    refine (Try.slices_Sort_int g 0 cap l w hH hlt (by omega)).mono ?_
    rintro e w' ⟨rfl, n, os, rfl⟩
    rw [show (l.mergeSort fun x y => decide (x ≤ y)) = srt l from rfl]
    have h1 := Lib.ownsRow_putRow (q := n) (ys := srt l) ho (by rw [srt_len]) (Nat.le_refl _)
    have h2 := Lib.below_putRow (enc := Value.int .i64) (q := n) (d := (srt l).toArray) hb hg
    refine ⟨rfl, ?_, ?_⟩
    · refine ⟨h2.os, h2.tape, h2.output, ?_, fun k hk => ?_⟩
      · have := h2.size
        simp only [Sort.grow, Array.size_append]; omega
      · rw [← h2.block k hk]
        exact Sort.heap_grow_old _ os (by have := h2.size; omega)
    · rw [List.take_of_length_le (by rw [srt_len]; exact Nat.le_refl _)] at h1
      have e3 := srt_len l
      have h3 := own_move h1 (w1 := Sort.grow (Sort.putRow (Value.int .i64) (Sort.ahead w n) g 0 (srt l).toArray) os) fun k hk => by
        have : g = k := by simpa [Value.ownBlock] using hk
        subst this
        refine Sort.heap_grow_old _ os ?_
        obtain ⟨cs, hcs⟩ := own_typed h1 g (by simp [Value.ownBlock])
        exact (Array.getElem?_eq_some_iff.1 hcs).1
      rw [← e3] at h3 ⊢
      exact Kd.R_of_own (enc := Value.int .i64) (h1 := fun _ => rfl) h3 (fun _ _ => trivial)
theorem mk_event {P : Program} {k : TypeId} {ops : Array Oper} {rest : List Oper} {o : Oper} {a : Act} {Q : Exit → Act → World → Prop} {W : World} (hgd : o.guard = none) {N : Tmp} (_hd : o.dst = some N)
    (hrun : (execOp a.eval o).run P W = .ok (.value (.map (some W.heap.size))) (W.alloc (.map #[] 0)))
    (h : ∀ b, b = W.heap.size → ∀ w1, OwnM P k w1 b 0 (fun _ => none) → Below W.heap.size W w1 → wpList P ops Q rest (a.put o.dst (.map (some b))) w1) : wpList P ops Q (o :: rest) a W :=
  Kd.event_run hgd hrun (h _ rfl _ (OwnM.made P k W) (below_alloc (Below.refl _ _) _))
def KP (B bm : Nat) (W1 wr : World) : Prop := B ≤ wr.heap.size ∧ ∀ k, k < B → k ≠ bm → wr.heap[k]? = W1.heap[k]?
theorem KP.refl (W : World) (bm : Nat) : KP W.heap.size bm W W := ⟨Nat.le_refl _, fun _ _ _ => rfl⟩
theorem KP.below {B bm : Nat} {W1 wr w' : World} (h : KP B bm W1 wr) (hb : Below B wr w') (hs : wr.heap.size ≤ w'.heap.size) : KP B bm W1 w' := ⟨Nat.le_trans h.1 hs, fun k hk hn => (hb.block k hk).trans (h.2 k hk hn)⟩
theorem KP.below1 {B bm : Nat} {W1 wr w' : World} (h : KP B bm W1 wr) (hb : Below wr.heap.size wr w') : KP B bm W1 w' := ⟨Nat.le_trans h.1 hb.size, fun k hk hn => (hb.block k (Nat.lt_of_lt_of_le hk h.1)).trans (h.2 k hk hn)⟩
theorem KP.grown {B bm : Nat} {W1 wr w' : World} {r : Nat} (h : KP B bm W1 wr) (hg : wr.grownBy w' (some r)) (hr : r = bm ∨ B ≤ r) : KP B bm W1 w' := ⟨Nat.le_trans h.1 hg.size, fun k hk hn => (hg.block k (Nat.lt_of_lt_of_le hk h.1) (fun e => by injection e with e; omega)).trans (h.2 k hk hn)⟩
theorem KP.blk {B bm : Nat} {W1 wr : World} (h : KP B bm W1 wr) {g : Nat} {o : Obj} (hg : W1.heap[g]? = some o) (hlt : g < B) (hn : g ≠ bm) : wr.heap[g]? = some o := (h.2 g hlt hn).trans hg
theorem KP.cell {B bm : Nat} {W1 wr : World} (h : KP B bm W1 wr) {a : Addr} {v : Value} (hg : W1.cell? a = some v) (hlt : a.block < B) (hn : a.block ≠ bm) : wr.cell? a = some v := (World.cell?_of_block (h.2 a.block hlt hn)).trans hg
theorem dn_upd (id : Int) (out : List Int) (y : Int) : upd (dn id out) y true = dn id (out ++ [y]) := funext fun x => by rw [dn_snoc]; rfl
theorem dn_nil (w : World) (b : Nat) (id : Int) (h : OwnM Try.prog 3 w b (0 + 1) (fun y => if y = id then some (.bool true) else none)) : DnM w b 1 (dn id []) := OwnM.ext h fun x => by
  unfold dn
  by_cases e : x = id <;> simp [e]
theorem ord_cells {W : World} {base : Nat} {ok : Nat → Prop} {Ao : Option Addr} {co bm : Nat} {l : List Int} (h : Kd.R (Kd.int .i64) 3 W base ok (.slice Ao l.length co) l) (hb : bm < base) (i : Nat) (hi : i < l.length) : ∃ ad, Ao = some ad ∧ (ad.add i).block < W.heap.size ∧ (ad.add i).block ≠ bm ∧ W.cell? (ad.add i) = some (.int .i64 l[i]) := by
  obtain ⟨g, cap, e, hg, hlt, _⟩ := Kd.R_form h (by omega)
  injection e with e1 _ _
  subst e1
  obtain ⟨ad, e, hc⟩ := Kd.at_int (Kd.R_reads' h).2.2 (i : Int) (by omega) (by omega)
  injection e with e
  subst e
  refine ⟨_, rfl, by rw [add_block]; exact hlt, fun e => by rw [add_block] at e; have e2 : g = bm := e; omega, ?_⟩
  rw [Int.toNat_natCast] at hc
  have hr : rd l (i : Int) = l[i] := by unfold rd; rw [Int.toNat_natCast]; simp [hi]
  rwa [hr] at hc
set_option maxHeartbeats 4000000 in
set_option maxRecDepth 100000 in
theorem reach0 (A : Option Addr) (c : Nat) (ns : List Nd) (A2 : Option Addr) (c2 : Nat) (ls : List Lk) (id : Int) (w : World) (HR : Hid (Rd kN w A c ns)) (HR2 : Hid (Rd kL w A2 c2 ls)) (HV : Hid (∀ W, Below w.heap.size w W → Calls Try.prog 14 #[.agg #[.slice A ns.length c, .slice A2 ls.length c2]] W fun e w' => e = .returned (.bool false) ∧ Below W.heap.size W w')) :
    Calls Try.prog 17 #[.agg #[.slice A ns.length c, .slice A2 ls.length c2], .int .i64 id] w fun e w' => ∃ v0_ : Value, e = .returned v0_ ∧ Kd.R (Kd.int .i64) 3 w' w.heap.size (fun _ => True) v0_ [] ∧ Below w.heap.size w w' := by
  go_enter Try.func17, Try.ntmps17
  go_wp2_with (first | ((with_reducible refine gate_dst (N := 2) rfl ?_); refine box_event ?hg (N := 2) ?hd (cs := #[.slice A ns.length c, .slice A2 ls.length c2]) (t := 25) ?hr ?_; (case hd => rfl); (case hg => rfl); (case hr => first | (go_simp; done) | (go_simp; rfl)); intro gb hg_ w2 hbox hb; have HB := Lib.hid hb; have HBX := Lib.hid hbox; have HGB := Lib.hid (Nat.le_of_eq hg_.symm); have cb0 := cel0 HBX.out 0 _ rfl; have cb1 := cel0 HBX.out 1 _ rfl; have lb := hlt HBX.out; clear hbox hb hg_) | (go_at_call 14; (with_reducible refine (HV.out _ HB.out).mono ?_); rintro e w_ ⟨rfl, hb⟩; clear cb0 cb1 lb; have HB_ := Lib.hid (below_step HB.out hb); have HBX_ := Lib.hid (hep HBX.out hb); clear HB HBX; have HB := HB_; have HBX := HBX_; clear HB_ HBX_; have cb0 := cel0 HBX.out 0 _ rfl; have cb1 := cel0 HBX.out 1 _ rfl; have lb := hlt HBX.out; clear hb))
  go_ret
  exact ⟨_, rfl, Kd.R_nil _ _ _ _ _, HB.out⟩
theorem four_cells (a b c d : Int) : ∀ q ∈ [Value.int .i64 a, Value.int .i64 b, Value.int .i64 c, Value.int .i64 d], q.oneCell' = true := by
  intro q hq
  simp only [List.mem_cons, List.not_mem_nil, or_false] at hq
  rcases hq with rfl | rfl | rfl | rfl <;> rfl
set_option maxHeartbeats 4000000 in
set_option maxRecDepth 100000 in
theorem reach1 (A : Option Addr) (c : Nat) (ns : List Nd) (A2 : Option Addr) (c2 : Nat) (ls : List Lk) (id : Int) (w : World) (HR : Hid (Rd kN w A c ns)) (HR2 : Hid (Rd kL w A2 c2 ls)) (HV : Hid (∀ W, Below w.heap.size w W → Calls Try.prog 14 #[.agg #[.slice A ns.length c, .slice A2 ls.length c2]] W fun e w' => e = .returned (.bool true) ∧ Below W.heap.size W w')) (HID : Hid (wf id)) (ord : List Int) (HOC : Hid (∀ W, Below w.heap.size w W → Calls Try.prog 37 #[.agg #[.slice A ns.length c, .slice A2 ls.length c2]] W fun e w' => ∃ v, e = .returned v ∧ Kd.R (Kd.int .i64) 3 w' W.heap.size (fun _ => True) v ord ∧ Below W.heap.size W w')) (HOW : Hid (∀ x ∈ ord, wf x)) (HLW : Hid (∀ l ∈ ls, wf l.f2)) (HOL : Hid (ord.length ≤ 64)) (HLL : Hid (ls.length ≤ 256)) :
    Calls Try.prog 17 #[.agg #[.slice A ns.length c, .slice A2 ls.length c2], .int .i64 id] w fun e w' => ∃ v0_ : Value, e = .returned v0_ ∧ Kd.R (Kd.int .i64) 3 w' w.heap.size (fun _ => True) v0_ (srt (rch id ls ord [])) ∧ Below w.heap.size w w' := by
  have HI := Lib.hid infoI
  have hmm := @run_makeMap Try.prog
  obtain ⟨R, hR⟩ : ∃ R, rch id ls ord [] = R := ⟨_, rfl⟩
  rw [hR]
  have HRR := Lib.hid hR
  clear hR
  go_enter Try.func17, Try.ntmps17
  go_wp2_with (first | ((with_reducible refine gate_dst (N := 2) rfl ?_); refine box_event ?hg (N := 2) ?hd (cs := #[.slice A ns.length c, .slice A2 ls.length c2]) (t := 25) ?hr ?_; (case hd => rfl); (case hg => rfl); (case hr => first | (go_simp; done) | (go_simp; rfl)); intro gb hg_ w2 hbox hb; have HB := Lib.hid hb; have HBX := Lib.hid hbox; have HGB := Lib.hid (Nat.le_of_eq hg_.symm); have cb0 := cel0 HBX.out 0 _ rfl; have cb1 := cel0 HBX.out 1 _ rfl; have lb := hlt HBX.out; clear hbox hb hg_) | (go_at_call 14; (with_reducible refine (HV.out _ HB.out).mono ?_); rintro e w_ ⟨rfl, hb⟩; clear cb0 cb1 lb; have HB_ := Lib.hid (below_step HB.out hb); have HBX_ := Lib.hid (hep HBX.out hb); clear HB HBX; have HB := HB_; have HBX := HBX_; clear HB_ HBX_; have cb0 := cel0 HBX.out 0 _ rfl; have cb1 := cel0 HBX.out 1 _ rfl; have lb := hlt HBX.out; clear hb) | ((with_reducible refine gate_dst (N := 14) rfl ?_); refine mk_event (k := 3) ?hg (N := 14) ?hd ?hr ?_; (case hd => rfl); (case hg => rfl); (case hr => first | (go_simp; done) | (go_simp; rfl)); intro bm hg_ w_ hmp hb; have HGM := Lib.hid (show w.heap.size ≤ bm by rw [hg_]; exact HB.out.size); have NM := Lib.hid (show gb ≠ bm by rw [hg_]; exact Nat.ne_of_lt (hlt HBX.out)); clear cb0 cb1 lb; have HB_ := Lib.hid (below_step HB.out hb); have HBX_ := Lib.hid (hep HBX.out hb); clear HB HBX; have HB := HB_; have HBX := HBX_; clear HB_ HBX_; have HM0 := Lib.hid hmp; clear hmp hb hg_) | ((with_reducible refine gate_ (Op.insert 72 (.tmp 14) (.tmp 15) (.const (.bool true))) rfl ?_); refine wpList_insert rfl _ _ _ rfl Try.underlying3 Try.underlying72 _ _ _ rfl HM0.out (by unfold maxLen; omega) id (.bool true) rfl rfl HID.out ?_; intro w_ hm_ hg_; have HB_ := Lib.hid (bel_grown HB.out hg_ HGM.out HB.out.size); have HBX_ := Lib.hid (blk_grown HBX.out hg_ (fun h => by injection h with h; exact NM.out h)); have HM := Lib.hid (dn_nil _ _ _ hm_); clear HB HBX HM0 hm_ hg_; have HB := HB_; have HBX := HBX_; clear HB_ HBX_; have cb0 := cel0 HBX.out 0 _ rfl; have cb1 := cel0 HBX.out 1 _ rfl; have lb := hlt HBX.out) | (go_at_call 37; (with_reducible refine (HOC.out _ HB.out).mono ?_); rintro e w_ ⟨vo, rfl, hvo, hb⟩; clear cb0 cb1 lb; have hbl := HM.out.lt; obtain ⟨Ao, co, rfl⟩ := Kd.R_slice hvo; have HOR := Lib.hid (fun (i : Nat) (hi : i < ord.length) => ord_cells hvo hbl i hi); have HBM_ := Lib.hid (Nat.lt_of_lt_of_le hbl hb.size); have HM_ := Lib.hid (show DnM _ bm 1 (dn id []) from OwnM.below HM.out hb); clear HM; have HM := HM_; clear HM_ hvo hbl; have HB_ := Lib.hid (below_step HB.out hb); have HBX_ := Lib.hid (hep HBX.out hb); clear HB HBX; have HB := HB_; have HBX := HBX_; clear HB_ HBX_; clear hb))
  clear hmm
  have HKP := Lib.hid (KP.refl w_ bm)
  have HBW := Lib.hid HB.out.size
  have HO0 := Lib.hid (Kd.R_nil (Kd.int .i64) 3 w_ w_.heap.size (fun _ => True))
  have HGB1 := Lib.hid (hlt HBX.out)
  generalize w_.heap.size = B1 at *
  generalize w_ = W1 at *
  have HBM := HBM_
  clear HBM_
  go_loopw [6, 20] (fun vo t wr => ∃ (i : Nat) (out : List Int), i ≤ ord.length ∧ t = .int .i64 i ∧ Aside0 (rch id ls (ord.drop i) out = R) ∧ Aside0 (out.length ≤ i * 256) ∧ Aside0 (Below w.heap.size w wr) ∧ Aside0 (KP B1 bm W1 wr) ∧ Aside0 (DnM wr bm (out.length + 1) (dn id out)) ∧ Aside0 (Kd.R (Kd.int .i64) 3 wr B1 (fun _ => True) vo out)) (fun _ t _ => ord.length - (intOf t).toNat)
  case atStart => exact ⟨0, [], by omega, rfl, ⟨HRR.out⟩, ⟨by simp⟩, ⟨HB.out⟩, ⟨HKP.out⟩, ⟨HM.out⟩, ⟨HO0.out⟩⟩
  case round =>
    clear HB HKP HM HO0 HRR
    obtain ⟨i, out, hi, rfl, hC, hLn, HB, HK, HM, HO⟩ := hrel
    by_cases hil : i < ord.length
    · obtain ⟨ad, rfl, ha1, ha2, ha3⟩ := HOR.out i hil
      have hcell := HK.out.cell ha3 ha1 ha2
      have hC2 := hC.out
      rw [List.drop_eq_getElem_cons hil, rch_cons] at hC2
      have HC2 := Lib.hid hC2
      have HNW_ := Lib.hid (HOW.out ord[i] (List.getElem_mem hil))
      clear ha1 ha2 ha3 hC2 hC
      generalize ord[i] = n at hcell HC2 HNW_
      have HBXr := Lib.hid (HK.out.blk HBX.out HGB1.out NM.out)
      have lb := hlt HBXr.out
      have cb1 := cel0 HBXr.out 1 _ rfl
      have p0 : (0 : Int) ≤ (i : Int) := by omega
      have p1 : (i : Int) < (ord.length : Int) := by omega
      have p2 : wrap64 ((i : Int) + 1) = ((i + 1 : Nat) : Int) := by have := HOL.out; unfold wrap64; omega
      have HIL := Lib.hid hil
      have HLN := Lib.hid hLn.out
      clear hi hil hLn
      go_wp2
      clear hcell lb cb1 HBXr
      go_loopw [6, 27] (fun vo t wr => ∃ (j : Nat) (out : List Int), j ≤ ls.length ∧ t = .int .i64 j ∧ Aside0 (rch id ls (ord.drop (i + 1)) (inn id n (ls.drop j) out) = R) ∧ Aside0 (out.length ≤ i * 256 + j) ∧ Aside0 (Below w.heap.size w wr) ∧ Aside0 (KP B1 bm W1 wr) ∧ Aside0 (DnM wr bm (out.length + 1) (dn id out)) ∧ Aside0 (Kd.R (Kd.int .i64) 3 wr B1 (fun _ => True) vo out)) (fun _ t _ => ls.length - (intOf t).toNat)
      case atStart => exact ⟨0, out, by omega, rfl, ⟨HC2.out⟩, ⟨HLN.out⟩, ⟨HB.out⟩, ⟨HK.out⟩, ⟨HM.out⟩, ⟨HO.out⟩⟩
      case round =>
        clear HB HK HM HO HC2 HLN out
        obtain ⟨j, out, hj, rfl, hC, hLn, HB, HK, HM, HO⟩ := hrel
        by_cases hjl : j < ls.length
        · obtain ⟨ad2, rfl, h0, h1, h2, h3⟩ := cells_link (HR2.out.below HB.out).1 j hjl
          have hC2 := hC.out
          rw [List.drop_eq_getElem_cons hjl, inn_cons] at hC2
          have HC2 := Lib.hid hC2
          have HXW := Lib.hid (HLW.out ls[j] (List.getElem_mem hjl))
          clear hC2 hC
          generalize ls[j] = x at h0 h1 h2 h3 HC2 HXW
          obtain ⟨Av, cv, rfl⟩ := Kd.R_slice HO.out
          have q0 : (0 : Int) ≤ (j : Int) := by omega
          have q1 : (j : Int) < (ls.length : Int) := by omega
          have q2 : wrap64 ((j : Int) + 1) = ((j + 1 : Nat) : Int) := by have := HLL.out; unfold wrap64; omega
          have HLB := Lib.hid (show out.length ≤ 100000 by have := hLn.out; have := HLL.out; have := HOL.out; have := HIL.out; omega)
          have HB := Lib.hid HB.out
          have HK := Lib.hid HK.out
          have HM := Lib.hid HM.out
          have HO := Lib.hid HO.out
          have hT : True := trivial
          by_cases hx0 : x.f0 = n
          · have d0 : decide (x.f0 = n) = true := decide_eq_true hx0
            have d0b : (x.f0 == n) = true := by rw [hx0]; exact beq_self_eq_true n
            have HD0 := Lib.hid d0
            clear hx0
            rcases hd1 : dn id out n with _ | _
            · have HD1 := Lib.hid hd1
              rcases hd2 : dn id out x.f2 with _ | _
              · have HD2 := Lib.hid hd2
                clear hd1 hd2
                have HIF := Lib.hid (show (decide (x.f0 = n) && (dn id out n && !dn id out x.f2)) = false by rw [HD0.out, HD1.out, HD2.out]; rfl)
                go_wp2_with (first | ((with_reducible refine gate_dst (N := 10) rfl ?_); refine box_event ?hg (N := 10) ?hd (cs := #[.int .i64 0, .int .i64 0, .int .i64 0, .int .i64 0]) (t := 45) ?hr ?_; (case hd => rfl); (case hg => rfl); (case hr => first | (go_simp; done) | (go_simp; rfl)); intro gl hg_ w10 hbox hb; have HGL := Lib.hid (show B1 ≤ gl by rw [hg_]; exact HK.out.1); have NL := Lib.hid (show gl ≠ bm by rw [hg_]; exact (Nat.ne_of_lt HM.out.lt).symm); have HB_ := Lib.hid (below_step HB.out hb); have HK_ := Lib.hid (HK.out.below1 hb); have HM_ := Lib.hid (show DnM _ bm (out.length + 1) (dn id out) from OwnM.below HM.out hb); have HO_ := Lib.hid (Kd.R_below HO.out hb); clear HB HK HM HO h0 h1 h2 h3; have HB := HB_; have HK := HK_; have HM := HM_; have HO := HO_; clear HB_ HK_ HM_ HO_; have HX := Lib.hid hbox; clear hbox hb hg_) | ((with_reducible refine gate_store (t := 45) (p := 10) rfl ?_); refine wpList_put rfl rfl 45 _ _ rfl (off := 0) (cur := #[.int .i64 0, .int .i64 0, .int .i64 0, .int .i64 0]) HX.out (by rfl) (.agg #[.int .i64 x.f0, .int .i64 x.f1, .int .i64 x.f2, .int .i64 x.f3]) (by rfl) [.int .i64 x.f0, .int .i64 x.f1, .int .i64 x.f2, .int .i64 x.f3] rfl (by kernel_rfl) (by simp) (four_cells _ _ _ _) #[.int .i64 x.f0, .int .i64 x.f1, .int .i64 x.f2, .int .i64 x.f3] rfl ?_; intro w_ hx_ hg_; have HB_ := Lib.hid (bel_grown HB.out hg_ (Nat.le_trans HBW.out HGL.out) HB.out.size); have HK_ := Lib.hid (HK.out.grown hg_ (.inr HGL.out)); have HM_ := Lib.hid (show DnM _ bm (out.length + 1) (dn id out) from OwnM.grown HM.out hg_ (fun h => by injection h with h; exact NL.out h.symm)); have HO_ := Lib.hid (Kd.R_grown2 HO.out rfl hg_ (fun k_ hk_ => by injection hk_ with hk_; subst hk_; exact Kd.R_ne HO.out HX.out (by decide))); clear HB HK HM HO HX; have HB := HB_; have HK := HK_; have HM := HM_; have HO := HO_; clear HB_ HK_ HM_ HO_; have HX := Lib.hid hx_; clear hx_ hg_; have lx := hlt HX.out; have cx0 := cel0 HX.out 0 _ rfl; have cx2 := cel0 HX.out 2 _ rfl; have hk1 := (DnM.look HM.out n HNW_.out).trans (by rw [HD1.out]); have hk2 := (DnM.look HM.out x.f2 HXW.out).trans (by rw [HD2.out])) | (at_mapUpdate; refine wpList_store rfl _ _ _ 72 rfl Try.underlying3 Try.underlying72 _ _ _ rfl HM.out (by have := HLB.out; unfold maxLen; omega) _ _ rfl rfl HXW.out ?_; intro w_ ho hg_; clear lx cx0 cx2 hk1 hk2; have HM_ := Lib.hid (show DnM w_ bm (out.length + 1 + 1) (upd (dn id out) x.f2 true) from DnM.set ho); have HB_ := Lib.hid (bel_grown HB.out hg_ HGM.out HB.out.size); have HK_ := Lib.hid (HK.out.grown hg_ (.inl rfl)); have HO_ := Lib.hid (Kd.R_grown2 HO.out rfl hg_ (fun k_ hk_ => by injection hk_ with hk_; subst hk_; exact fun he => Nat.not_le.2 HBM.out (Kd.R_base HO.out _ he.symm))); have HX_ := Lib.hid (blk_grown HX.out hg_ (fun h => by injection h with h; exact NL.out h)); clear HB HK HM HO HX ho hg_; have HB := HB_; have HK := HK_; have HM := HM_; have HO := HO_; have HX := HX_; clear HB_ HK_ HM_ HO_ HX_; have lx := hlt HX.out; have cx2 := cel0 HX.out 2 _ rfl; have HAP := Lib.hid (Below.refl B1 w_)) | ((with_reducible refine gate_builtin (b := .append) (xs := #[.tmp 50, .tmp 53]) rfl ?_); at_builtin; refine Kd.R_append (Kd.int .i64) B1 rfl (.tmp 50) (.tmp 53) 31 3 (.int .i64 0) 8 rfl Try.underlying31 HI.out rfl (by decide) (by omega) (.slice Av out.length cv) out x.f2 [.int .i64 x.f2] (fun _ => True) (fun _ => False) rfl rfl rfl (fun _ hk => hk.elim) (fun _ _ => trivial) HO.out HAP.out HK.out.1 (by have := HLB.out; omega) ?_; intro v3 w3 ho hb hg hat; have HB_ := Lib.hid (HB.out.trans (hb.mono HBW.out)); have HK_ := Lib.hid (HK.out.below hb hg.size); have HM_ := Lib.hid (show DnM w3 bm (out.length + 1 + 1) (upd (dn id out) x.f2 true) from OwnM.move HM.out (hb.block bm HBM.out)); have HO_ := Lib.hid ho; clear HB HK HM HO HX HAP lx cx2 ho hb hg hat; have HB := HB_; have HK := HK_; have HM := HM_; have HO := HO_; clear HB_ HK_ HM_ HO_))
                go_roundw
                case measure => first | (rw [q2]; exact lower hjl) | (simp only [intOf]; omega)
                case rel => exact ⟨j + 1, out, hjl, by first | rw [q2] | simp, ⟨by have h := HC2.out; rw [HIF.out, if_neg (by simp)] at h; exact h⟩, ⟨by have := hLn.out; omega⟩, ⟨HB.out⟩, ⟨HK.out⟩, ⟨HM.out⟩, ⟨HO.out⟩⟩
              · have HD2 := Lib.hid hd2
                clear hd1 hd2
                have HIF := Lib.hid (show (decide (x.f0 = n) && (dn id out n && !dn id out x.f2)) = false by rw [HD0.out, HD1.out, HD2.out]; rfl)
                go_wp2_with (first | ((with_reducible refine gate_dst (N := 10) rfl ?_); refine box_event ?hg (N := 10) ?hd (cs := #[.int .i64 0, .int .i64 0, .int .i64 0, .int .i64 0]) (t := 45) ?hr ?_; (case hd => rfl); (case hg => rfl); (case hr => first | (go_simp; done) | (go_simp; rfl)); intro gl hg_ w10 hbox hb; have HGL := Lib.hid (show B1 ≤ gl by rw [hg_]; exact HK.out.1); have NL := Lib.hid (show gl ≠ bm by rw [hg_]; exact (Nat.ne_of_lt HM.out.lt).symm); have HB_ := Lib.hid (below_step HB.out hb); have HK_ := Lib.hid (HK.out.below1 hb); have HM_ := Lib.hid (show DnM _ bm (out.length + 1) (dn id out) from OwnM.below HM.out hb); have HO_ := Lib.hid (Kd.R_below HO.out hb); clear HB HK HM HO h0 h1 h2 h3; have HB := HB_; have HK := HK_; have HM := HM_; have HO := HO_; clear HB_ HK_ HM_ HO_; have HX := Lib.hid hbox; clear hbox hb hg_) | ((with_reducible refine gate_store (t := 45) (p := 10) rfl ?_); refine wpList_put rfl rfl 45 _ _ rfl (off := 0) (cur := #[.int .i64 0, .int .i64 0, .int .i64 0, .int .i64 0]) HX.out (by rfl) (.agg #[.int .i64 x.f0, .int .i64 x.f1, .int .i64 x.f2, .int .i64 x.f3]) (by rfl) [.int .i64 x.f0, .int .i64 x.f1, .int .i64 x.f2, .int .i64 x.f3] rfl (by kernel_rfl) (by simp) (four_cells _ _ _ _) #[.int .i64 x.f0, .int .i64 x.f1, .int .i64 x.f2, .int .i64 x.f3] rfl ?_; intro w_ hx_ hg_; have HB_ := Lib.hid (bel_grown HB.out hg_ (Nat.le_trans HBW.out HGL.out) HB.out.size); have HK_ := Lib.hid (HK.out.grown hg_ (.inr HGL.out)); have HM_ := Lib.hid (show DnM _ bm (out.length + 1) (dn id out) from OwnM.grown HM.out hg_ (fun h => by injection h with h; exact NL.out h.symm)); have HO_ := Lib.hid (Kd.R_grown2 HO.out rfl hg_ (fun k_ hk_ => by injection hk_ with hk_; subst hk_; exact Kd.R_ne HO.out HX.out (by decide))); clear HB HK HM HO HX; have HB := HB_; have HK := HK_; have HM := HM_; have HO := HO_; clear HB_ HK_ HM_ HO_; have HX := Lib.hid hx_; clear hx_ hg_; have lx := hlt HX.out; have cx0 := cel0 HX.out 0 _ rfl; have cx2 := cel0 HX.out 2 _ rfl; have hk1 := (DnM.look HM.out n HNW_.out).trans (by rw [HD1.out]); have hk2 := (DnM.look HM.out x.f2 HXW.out).trans (by rw [HD2.out])) | (at_mapUpdate; refine wpList_store rfl _ _ _ 72 rfl Try.underlying3 Try.underlying72 _ _ _ rfl HM.out (by have := HLB.out; unfold maxLen; omega) _ _ rfl rfl HXW.out ?_; intro w_ ho hg_; clear lx cx0 cx2 hk1 hk2; have HM_ := Lib.hid (show DnM w_ bm (out.length + 1 + 1) (upd (dn id out) x.f2 true) from DnM.set ho); have HB_ := Lib.hid (bel_grown HB.out hg_ HGM.out HB.out.size); have HK_ := Lib.hid (HK.out.grown hg_ (.inl rfl)); have HO_ := Lib.hid (Kd.R_grown2 HO.out rfl hg_ (fun k_ hk_ => by injection hk_ with hk_; subst hk_; exact fun he => Nat.not_le.2 HBM.out (Kd.R_base HO.out _ he.symm))); have HX_ := Lib.hid (blk_grown HX.out hg_ (fun h => by injection h with h; exact NL.out h)); clear HB HK HM HO HX ho hg_; have HB := HB_; have HK := HK_; have HM := HM_; have HO := HO_; have HX := HX_; clear HB_ HK_ HM_ HO_ HX_; have lx := hlt HX.out; have cx2 := cel0 HX.out 2 _ rfl; have HAP := Lib.hid (Below.refl B1 w_)) | ((with_reducible refine gate_builtin (b := .append) (xs := #[.tmp 50, .tmp 53]) rfl ?_); at_builtin; refine Kd.R_append (Kd.int .i64) B1 rfl (.tmp 50) (.tmp 53) 31 3 (.int .i64 0) 8 rfl Try.underlying31 HI.out rfl (by decide) (by omega) (.slice Av out.length cv) out x.f2 [.int .i64 x.f2] (fun _ => True) (fun _ => False) rfl rfl rfl (fun _ hk => hk.elim) (fun _ _ => trivial) HO.out HAP.out HK.out.1 (by have := HLB.out; omega) ?_; intro v3 w3 ho hb hg hat; have HB_ := Lib.hid (HB.out.trans (hb.mono HBW.out)); have HK_ := Lib.hid (HK.out.below hb hg.size); have HM_ := Lib.hid (show DnM w3 bm (out.length + 1 + 1) (upd (dn id out) x.f2 true) from OwnM.move HM.out (hb.block bm HBM.out)); have HO_ := Lib.hid ho; clear HB HK HM HO HX HAP lx cx2 ho hb hg hat; have HB := HB_; have HK := HK_; have HM := HM_; have HO := HO_; clear HB_ HK_ HM_ HO_))
                go_roundw
                case measure => first | (rw [q2]; exact lower hjl) | (simp only [intOf]; omega)
                case rel => exact ⟨j + 1, out, hjl, by first | rw [q2] | simp, ⟨by have h := HC2.out; rw [HIF.out, if_neg (by simp)] at h; exact h⟩, ⟨by have := hLn.out; omega⟩, ⟨HB.out⟩, ⟨HK.out⟩, ⟨HM.out⟩, ⟨HO.out⟩⟩
            · have HD1 := Lib.hid hd1
              rcases hd2 : dn id out x.f2 with _ | _
              · have HD2 := Lib.hid hd2
                clear hd1 hd2
                have HIF := Lib.hid (show (decide (x.f0 = n) && (dn id out n && !dn id out x.f2)) = true by rw [HD0.out, HD1.out, HD2.out]; rfl)
                go_wp2_with (first | ((with_reducible refine gate_dst (N := 10) rfl ?_); refine box_event ?hg (N := 10) ?hd (cs := #[.int .i64 0, .int .i64 0, .int .i64 0, .int .i64 0]) (t := 45) ?hr ?_; (case hd => rfl); (case hg => rfl); (case hr => first | (go_simp; done) | (go_simp; rfl)); intro gl hg_ w10 hbox hb; have HGL := Lib.hid (show B1 ≤ gl by rw [hg_]; exact HK.out.1); have NL := Lib.hid (show gl ≠ bm by rw [hg_]; exact (Nat.ne_of_lt HM.out.lt).symm); have HB_ := Lib.hid (below_step HB.out hb); have HK_ := Lib.hid (HK.out.below1 hb); have HM_ := Lib.hid (show DnM _ bm (out.length + 1) (dn id out) from OwnM.below HM.out hb); have HO_ := Lib.hid (Kd.R_below HO.out hb); clear HB HK HM HO h0 h1 h2 h3; have HB := HB_; have HK := HK_; have HM := HM_; have HO := HO_; clear HB_ HK_ HM_ HO_; have HX := Lib.hid hbox; clear hbox hb hg_) | ((with_reducible refine gate_store (t := 45) (p := 10) rfl ?_); refine wpList_put rfl rfl 45 _ _ rfl (off := 0) (cur := #[.int .i64 0, .int .i64 0, .int .i64 0, .int .i64 0]) HX.out (by rfl) (.agg #[.int .i64 x.f0, .int .i64 x.f1, .int .i64 x.f2, .int .i64 x.f3]) (by rfl) [.int .i64 x.f0, .int .i64 x.f1, .int .i64 x.f2, .int .i64 x.f3] rfl (by kernel_rfl) (by simp) (four_cells _ _ _ _) #[.int .i64 x.f0, .int .i64 x.f1, .int .i64 x.f2, .int .i64 x.f3] rfl ?_; intro w_ hx_ hg_; have HB_ := Lib.hid (bel_grown HB.out hg_ (Nat.le_trans HBW.out HGL.out) HB.out.size); have HK_ := Lib.hid (HK.out.grown hg_ (.inr HGL.out)); have HM_ := Lib.hid (show DnM _ bm (out.length + 1) (dn id out) from OwnM.grown HM.out hg_ (fun h => by injection h with h; exact NL.out h.symm)); have HO_ := Lib.hid (Kd.R_grown2 HO.out rfl hg_ (fun k_ hk_ => by injection hk_ with hk_; subst hk_; exact Kd.R_ne HO.out HX.out (by decide))); clear HB HK HM HO HX; have HB := HB_; have HK := HK_; have HM := HM_; have HO := HO_; clear HB_ HK_ HM_ HO_; have HX := Lib.hid hx_; clear hx_ hg_; have lx := hlt HX.out; have cx0 := cel0 HX.out 0 _ rfl; have cx2 := cel0 HX.out 2 _ rfl; have hk1 := (DnM.look HM.out n HNW_.out).trans (by rw [HD1.out]); have hk2 := (DnM.look HM.out x.f2 HXW.out).trans (by rw [HD2.out])) | (at_mapUpdate; refine wpList_store rfl _ _ _ 72 rfl Try.underlying3 Try.underlying72 _ _ _ rfl HM.out (by have := HLB.out; unfold maxLen; omega) _ _ rfl rfl HXW.out ?_; intro w_ ho hg_; clear lx cx0 cx2 hk1 hk2; have HM_ := Lib.hid (show DnM w_ bm (out.length + 1 + 1) (upd (dn id out) x.f2 true) from DnM.set ho); have HB_ := Lib.hid (bel_grown HB.out hg_ HGM.out HB.out.size); have HK_ := Lib.hid (HK.out.grown hg_ (.inl rfl)); have HO_ := Lib.hid (Kd.R_grown2 HO.out rfl hg_ (fun k_ hk_ => by injection hk_ with hk_; subst hk_; exact fun he => Nat.not_le.2 HBM.out (Kd.R_base HO.out _ he.symm))); have HX_ := Lib.hid (blk_grown HX.out hg_ (fun h => by injection h with h; exact NL.out h)); clear HB HK HM HO HX ho hg_; have HB := HB_; have HK := HK_; have HM := HM_; have HO := HO_; have HX := HX_; clear HB_ HK_ HM_ HO_ HX_; have lx := hlt HX.out; have cx2 := cel0 HX.out 2 _ rfl; have HAP := Lib.hid (Below.refl B1 w_)) | ((with_reducible refine gate_builtin (b := .append) (xs := #[.tmp 50, .tmp 53]) rfl ?_); at_builtin; refine Kd.R_append (Kd.int .i64) B1 rfl (.tmp 50) (.tmp 53) 31 3 (.int .i64 0) 8 rfl Try.underlying31 HI.out rfl (by decide) (by omega) (.slice Av out.length cv) out x.f2 [.int .i64 x.f2] (fun _ => True) (fun _ => False) rfl rfl rfl (fun _ hk => hk.elim) (fun _ _ => trivial) HO.out HAP.out HK.out.1 (by have := HLB.out; omega) ?_; intro v3 w3 ho hb hg hat; have HB_ := Lib.hid (HB.out.trans (hb.mono HBW.out)); have HK_ := Lib.hid (HK.out.below hb hg.size); have HM_ := Lib.hid (show DnM w3 bm (out.length + 1 + 1) (upd (dn id out) x.f2 true) from OwnM.move HM.out (hb.block bm HBM.out)); have HO_ := Lib.hid ho; clear HB HK HM HO HX HAP lx cx2 ho hb hg hat; have HB := HB_; have HK := HK_; have HM := HM_; have HO := HO_; clear HB_ HK_ HM_ HO_))
                go_roundw
                case measure => first | (rw [q2]; exact lower hjl) | (simp only [intOf]; omega)
                case rel => exact ⟨j + 1, out ++ [x.f2], hjl, by first | rw [q2] | simp, ⟨by have h := HC2.out; rw [HIF.out, if_pos rfl] at h; exact h⟩, ⟨by have := hLn.out; simp only [List.length_append, List.length_singleton]; omega⟩, ⟨HB.out⟩, ⟨HK.out⟩, ⟨by have h := HM.out; rw [dn_upd] at h; simpa using h⟩, ⟨HO.out⟩⟩
              · have HD2 := Lib.hid hd2
                clear hd1 hd2
                have HIF := Lib.hid (show (decide (x.f0 = n) && (dn id out n && !dn id out x.f2)) = false by rw [HD0.out, HD1.out, HD2.out]; rfl)
                go_wp2_with (first | ((with_reducible refine gate_dst (N := 10) rfl ?_); refine box_event ?hg (N := 10) ?hd (cs := #[.int .i64 0, .int .i64 0, .int .i64 0, .int .i64 0]) (t := 45) ?hr ?_; (case hd => rfl); (case hg => rfl); (case hr => first | (go_simp; done) | (go_simp; rfl)); intro gl hg_ w10 hbox hb; have HGL := Lib.hid (show B1 ≤ gl by rw [hg_]; exact HK.out.1); have NL := Lib.hid (show gl ≠ bm by rw [hg_]; exact (Nat.ne_of_lt HM.out.lt).symm); have HB_ := Lib.hid (below_step HB.out hb); have HK_ := Lib.hid (HK.out.below1 hb); have HM_ := Lib.hid (show DnM _ bm (out.length + 1) (dn id out) from OwnM.below HM.out hb); have HO_ := Lib.hid (Kd.R_below HO.out hb); clear HB HK HM HO h0 h1 h2 h3; have HB := HB_; have HK := HK_; have HM := HM_; have HO := HO_; clear HB_ HK_ HM_ HO_; have HX := Lib.hid hbox; clear hbox hb hg_) | ((with_reducible refine gate_store (t := 45) (p := 10) rfl ?_); refine wpList_put rfl rfl 45 _ _ rfl (off := 0) (cur := #[.int .i64 0, .int .i64 0, .int .i64 0, .int .i64 0]) HX.out (by rfl) (.agg #[.int .i64 x.f0, .int .i64 x.f1, .int .i64 x.f2, .int .i64 x.f3]) (by rfl) [.int .i64 x.f0, .int .i64 x.f1, .int .i64 x.f2, .int .i64 x.f3] rfl (by kernel_rfl) (by simp) (four_cells _ _ _ _) #[.int .i64 x.f0, .int .i64 x.f1, .int .i64 x.f2, .int .i64 x.f3] rfl ?_; intro w_ hx_ hg_; have HB_ := Lib.hid (bel_grown HB.out hg_ (Nat.le_trans HBW.out HGL.out) HB.out.size); have HK_ := Lib.hid (HK.out.grown hg_ (.inr HGL.out)); have HM_ := Lib.hid (show DnM _ bm (out.length + 1) (dn id out) from OwnM.grown HM.out hg_ (fun h => by injection h with h; exact NL.out h.symm)); have HO_ := Lib.hid (Kd.R_grown2 HO.out rfl hg_ (fun k_ hk_ => by injection hk_ with hk_; subst hk_; exact Kd.R_ne HO.out HX.out (by decide))); clear HB HK HM HO HX; have HB := HB_; have HK := HK_; have HM := HM_; have HO := HO_; clear HB_ HK_ HM_ HO_; have HX := Lib.hid hx_; clear hx_ hg_; have lx := hlt HX.out; have cx0 := cel0 HX.out 0 _ rfl; have cx2 := cel0 HX.out 2 _ rfl; have hk1 := (DnM.look HM.out n HNW_.out).trans (by rw [HD1.out]); have hk2 := (DnM.look HM.out x.f2 HXW.out).trans (by rw [HD2.out])) | (at_mapUpdate; refine wpList_store rfl _ _ _ 72 rfl Try.underlying3 Try.underlying72 _ _ _ rfl HM.out (by have := HLB.out; unfold maxLen; omega) _ _ rfl rfl HXW.out ?_; intro w_ ho hg_; clear lx cx0 cx2 hk1 hk2; have HM_ := Lib.hid (show DnM w_ bm (out.length + 1 + 1) (upd (dn id out) x.f2 true) from DnM.set ho); have HB_ := Lib.hid (bel_grown HB.out hg_ HGM.out HB.out.size); have HK_ := Lib.hid (HK.out.grown hg_ (.inl rfl)); have HO_ := Lib.hid (Kd.R_grown2 HO.out rfl hg_ (fun k_ hk_ => by injection hk_ with hk_; subst hk_; exact fun he => Nat.not_le.2 HBM.out (Kd.R_base HO.out _ he.symm))); have HX_ := Lib.hid (blk_grown HX.out hg_ (fun h => by injection h with h; exact NL.out h)); clear HB HK HM HO HX ho hg_; have HB := HB_; have HK := HK_; have HM := HM_; have HO := HO_; have HX := HX_; clear HB_ HK_ HM_ HO_ HX_; have lx := hlt HX.out; have cx2 := cel0 HX.out 2 _ rfl; have HAP := Lib.hid (Below.refl B1 w_)) | ((with_reducible refine gate_builtin (b := .append) (xs := #[.tmp 50, .tmp 53]) rfl ?_); at_builtin; refine Kd.R_append (Kd.int .i64) B1 rfl (.tmp 50) (.tmp 53) 31 3 (.int .i64 0) 8 rfl Try.underlying31 HI.out rfl (by decide) (by omega) (.slice Av out.length cv) out x.f2 [.int .i64 x.f2] (fun _ => True) (fun _ => False) rfl rfl rfl (fun _ hk => hk.elim) (fun _ _ => trivial) HO.out HAP.out HK.out.1 (by have := HLB.out; omega) ?_; intro v3 w3 ho hb hg hat; have HB_ := Lib.hid (HB.out.trans (hb.mono HBW.out)); have HK_ := Lib.hid (HK.out.below hb hg.size); have HM_ := Lib.hid (show DnM w3 bm (out.length + 1 + 1) (upd (dn id out) x.f2 true) from OwnM.move HM.out (hb.block bm HBM.out)); have HO_ := Lib.hid ho; clear HB HK HM HO HX HAP lx cx2 ho hb hg hat; have HB := HB_; have HK := HK_; have HM := HM_; have HO := HO_; clear HB_ HK_ HM_ HO_))
                go_roundw
                case measure => first | (rw [q2]; exact lower hjl) | (simp only [intOf]; omega)
                case rel => exact ⟨j + 1, out, hjl, by first | rw [q2] | simp, ⟨by have h := HC2.out; rw [HIF.out, if_neg (by simp)] at h; exact h⟩, ⟨by have := hLn.out; omega⟩, ⟨HB.out⟩, ⟨HK.out⟩, ⟨HM.out⟩, ⟨HO.out⟩⟩
          · have d0 : decide (x.f0 = n) = false := decide_eq_false hx0
            have d0b : (x.f0 == n) = false := by rw [beq_eq_false_iff_ne]; exact hx0
            have HD0 := Lib.hid d0
            clear hx0
            rcases hd1 : dn id out n with _ | _
            · have HD1 := Lib.hid hd1
              rcases hd2 : dn id out x.f2 with _ | _
              · have HD2 := Lib.hid hd2
                clear hd1 hd2
                have HIF := Lib.hid (show (decide (x.f0 = n) && (dn id out n && !dn id out x.f2)) = false by rw [HD0.out, HD1.out, HD2.out]; rfl)
                go_wp2_with (first | ((with_reducible refine gate_dst (N := 10) rfl ?_); refine box_event ?hg (N := 10) ?hd (cs := #[.int .i64 0, .int .i64 0, .int .i64 0, .int .i64 0]) (t := 45) ?hr ?_; (case hd => rfl); (case hg => rfl); (case hr => first | (go_simp; done) | (go_simp; rfl)); intro gl hg_ w10 hbox hb; have HGL := Lib.hid (show B1 ≤ gl by rw [hg_]; exact HK.out.1); have NL := Lib.hid (show gl ≠ bm by rw [hg_]; exact (Nat.ne_of_lt HM.out.lt).symm); have HB_ := Lib.hid (below_step HB.out hb); have HK_ := Lib.hid (HK.out.below1 hb); have HM_ := Lib.hid (show DnM _ bm (out.length + 1) (dn id out) from OwnM.below HM.out hb); have HO_ := Lib.hid (Kd.R_below HO.out hb); clear HB HK HM HO h0 h1 h2 h3; have HB := HB_; have HK := HK_; have HM := HM_; have HO := HO_; clear HB_ HK_ HM_ HO_; have HX := Lib.hid hbox; clear hbox hb hg_) | ((with_reducible refine gate_store (t := 45) (p := 10) rfl ?_); refine wpList_put rfl rfl 45 _ _ rfl (off := 0) (cur := #[.int .i64 0, .int .i64 0, .int .i64 0, .int .i64 0]) HX.out (by rfl) (.agg #[.int .i64 x.f0, .int .i64 x.f1, .int .i64 x.f2, .int .i64 x.f3]) (by rfl) [.int .i64 x.f0, .int .i64 x.f1, .int .i64 x.f2, .int .i64 x.f3] rfl (by kernel_rfl) (by simp) (four_cells _ _ _ _) #[.int .i64 x.f0, .int .i64 x.f1, .int .i64 x.f2, .int .i64 x.f3] rfl ?_; intro w_ hx_ hg_; have HB_ := Lib.hid (bel_grown HB.out hg_ (Nat.le_trans HBW.out HGL.out) HB.out.size); have HK_ := Lib.hid (HK.out.grown hg_ (.inr HGL.out)); have HM_ := Lib.hid (show DnM _ bm (out.length + 1) (dn id out) from OwnM.grown HM.out hg_ (fun h => by injection h with h; exact NL.out h.symm)); have HO_ := Lib.hid (Kd.R_grown2 HO.out rfl hg_ (fun k_ hk_ => by injection hk_ with hk_; subst hk_; exact Kd.R_ne HO.out HX.out (by decide))); clear HB HK HM HO HX; have HB := HB_; have HK := HK_; have HM := HM_; have HO := HO_; clear HB_ HK_ HM_ HO_; have HX := Lib.hid hx_; clear hx_ hg_; have lx := hlt HX.out; have cx0 := cel0 HX.out 0 _ rfl; have cx2 := cel0 HX.out 2 _ rfl; have hk1 := (DnM.look HM.out n HNW_.out).trans (by rw [HD1.out]); have hk2 := (DnM.look HM.out x.f2 HXW.out).trans (by rw [HD2.out])) | (at_mapUpdate; refine wpList_store rfl _ _ _ 72 rfl Try.underlying3 Try.underlying72 _ _ _ rfl HM.out (by have := HLB.out; unfold maxLen; omega) _ _ rfl rfl HXW.out ?_; intro w_ ho hg_; clear lx cx0 cx2 hk1 hk2; have HM_ := Lib.hid (show DnM w_ bm (out.length + 1 + 1) (upd (dn id out) x.f2 true) from DnM.set ho); have HB_ := Lib.hid (bel_grown HB.out hg_ HGM.out HB.out.size); have HK_ := Lib.hid (HK.out.grown hg_ (.inl rfl)); have HO_ := Lib.hid (Kd.R_grown2 HO.out rfl hg_ (fun k_ hk_ => by injection hk_ with hk_; subst hk_; exact fun he => Nat.not_le.2 HBM.out (Kd.R_base HO.out _ he.symm))); have HX_ := Lib.hid (blk_grown HX.out hg_ (fun h => by injection h with h; exact NL.out h)); clear HB HK HM HO HX ho hg_; have HB := HB_; have HK := HK_; have HM := HM_; have HO := HO_; have HX := HX_; clear HB_ HK_ HM_ HO_ HX_; have lx := hlt HX.out; have cx2 := cel0 HX.out 2 _ rfl; have HAP := Lib.hid (Below.refl B1 w_)) | ((with_reducible refine gate_builtin (b := .append) (xs := #[.tmp 50, .tmp 53]) rfl ?_); at_builtin; refine Kd.R_append (Kd.int .i64) B1 rfl (.tmp 50) (.tmp 53) 31 3 (.int .i64 0) 8 rfl Try.underlying31 HI.out rfl (by decide) (by omega) (.slice Av out.length cv) out x.f2 [.int .i64 x.f2] (fun _ => True) (fun _ => False) rfl rfl rfl (fun _ hk => hk.elim) (fun _ _ => trivial) HO.out HAP.out HK.out.1 (by have := HLB.out; omega) ?_; intro v3 w3 ho hb hg hat; have HB_ := Lib.hid (HB.out.trans (hb.mono HBW.out)); have HK_ := Lib.hid (HK.out.below hb hg.size); have HM_ := Lib.hid (show DnM w3 bm (out.length + 1 + 1) (upd (dn id out) x.f2 true) from OwnM.move HM.out (hb.block bm HBM.out)); have HO_ := Lib.hid ho; clear HB HK HM HO HX HAP lx cx2 ho hb hg hat; have HB := HB_; have HK := HK_; have HM := HM_; have HO := HO_; clear HB_ HK_ HM_ HO_))
                go_roundw
                case measure => first | (rw [q2]; exact lower hjl) | (simp only [intOf]; omega)
                case rel => exact ⟨j + 1, out, hjl, by first | rw [q2] | simp, ⟨by have h := HC2.out; rw [HIF.out, if_neg (by simp)] at h; exact h⟩, ⟨by have := hLn.out; omega⟩, ⟨HB.out⟩, ⟨HK.out⟩, ⟨HM.out⟩, ⟨HO.out⟩⟩
              · have HD2 := Lib.hid hd2
                clear hd1 hd2
                have HIF := Lib.hid (show (decide (x.f0 = n) && (dn id out n && !dn id out x.f2)) = false by rw [HD0.out, HD1.out, HD2.out]; rfl)
                go_wp2_with (first | ((with_reducible refine gate_dst (N := 10) rfl ?_); refine box_event ?hg (N := 10) ?hd (cs := #[.int .i64 0, .int .i64 0, .int .i64 0, .int .i64 0]) (t := 45) ?hr ?_; (case hd => rfl); (case hg => rfl); (case hr => first | (go_simp; done) | (go_simp; rfl)); intro gl hg_ w10 hbox hb; have HGL := Lib.hid (show B1 ≤ gl by rw [hg_]; exact HK.out.1); have NL := Lib.hid (show gl ≠ bm by rw [hg_]; exact (Nat.ne_of_lt HM.out.lt).symm); have HB_ := Lib.hid (below_step HB.out hb); have HK_ := Lib.hid (HK.out.below1 hb); have HM_ := Lib.hid (show DnM _ bm (out.length + 1) (dn id out) from OwnM.below HM.out hb); have HO_ := Lib.hid (Kd.R_below HO.out hb); clear HB HK HM HO h0 h1 h2 h3; have HB := HB_; have HK := HK_; have HM := HM_; have HO := HO_; clear HB_ HK_ HM_ HO_; have HX := Lib.hid hbox; clear hbox hb hg_) | ((with_reducible refine gate_store (t := 45) (p := 10) rfl ?_); refine wpList_put rfl rfl 45 _ _ rfl (off := 0) (cur := #[.int .i64 0, .int .i64 0, .int .i64 0, .int .i64 0]) HX.out (by rfl) (.agg #[.int .i64 x.f0, .int .i64 x.f1, .int .i64 x.f2, .int .i64 x.f3]) (by rfl) [.int .i64 x.f0, .int .i64 x.f1, .int .i64 x.f2, .int .i64 x.f3] rfl (by kernel_rfl) (by simp) (four_cells _ _ _ _) #[.int .i64 x.f0, .int .i64 x.f1, .int .i64 x.f2, .int .i64 x.f3] rfl ?_; intro w_ hx_ hg_; have HB_ := Lib.hid (bel_grown HB.out hg_ (Nat.le_trans HBW.out HGL.out) HB.out.size); have HK_ := Lib.hid (HK.out.grown hg_ (.inr HGL.out)); have HM_ := Lib.hid (show DnM _ bm (out.length + 1) (dn id out) from OwnM.grown HM.out hg_ (fun h => by injection h with h; exact NL.out h.symm)); have HO_ := Lib.hid (Kd.R_grown2 HO.out rfl hg_ (fun k_ hk_ => by injection hk_ with hk_; subst hk_; exact Kd.R_ne HO.out HX.out (by decide))); clear HB HK HM HO HX; have HB := HB_; have HK := HK_; have HM := HM_; have HO := HO_; clear HB_ HK_ HM_ HO_; have HX := Lib.hid hx_; clear hx_ hg_; have lx := hlt HX.out; have cx0 := cel0 HX.out 0 _ rfl; have cx2 := cel0 HX.out 2 _ rfl; have hk1 := (DnM.look HM.out n HNW_.out).trans (by rw [HD1.out]); have hk2 := (DnM.look HM.out x.f2 HXW.out).trans (by rw [HD2.out])) | (at_mapUpdate; refine wpList_store rfl _ _ _ 72 rfl Try.underlying3 Try.underlying72 _ _ _ rfl HM.out (by have := HLB.out; unfold maxLen; omega) _ _ rfl rfl HXW.out ?_; intro w_ ho hg_; clear lx cx0 cx2 hk1 hk2; have HM_ := Lib.hid (show DnM w_ bm (out.length + 1 + 1) (upd (dn id out) x.f2 true) from DnM.set ho); have HB_ := Lib.hid (bel_grown HB.out hg_ HGM.out HB.out.size); have HK_ := Lib.hid (HK.out.grown hg_ (.inl rfl)); have HO_ := Lib.hid (Kd.R_grown2 HO.out rfl hg_ (fun k_ hk_ => by injection hk_ with hk_; subst hk_; exact fun he => Nat.not_le.2 HBM.out (Kd.R_base HO.out _ he.symm))); have HX_ := Lib.hid (blk_grown HX.out hg_ (fun h => by injection h with h; exact NL.out h)); clear HB HK HM HO HX ho hg_; have HB := HB_; have HK := HK_; have HM := HM_; have HO := HO_; have HX := HX_; clear HB_ HK_ HM_ HO_ HX_; have lx := hlt HX.out; have cx2 := cel0 HX.out 2 _ rfl; have HAP := Lib.hid (Below.refl B1 w_)) | ((with_reducible refine gate_builtin (b := .append) (xs := #[.tmp 50, .tmp 53]) rfl ?_); at_builtin; refine Kd.R_append (Kd.int .i64) B1 rfl (.tmp 50) (.tmp 53) 31 3 (.int .i64 0) 8 rfl Try.underlying31 HI.out rfl (by decide) (by omega) (.slice Av out.length cv) out x.f2 [.int .i64 x.f2] (fun _ => True) (fun _ => False) rfl rfl rfl (fun _ hk => hk.elim) (fun _ _ => trivial) HO.out HAP.out HK.out.1 (by have := HLB.out; omega) ?_; intro v3 w3 ho hb hg hat; have HB_ := Lib.hid (HB.out.trans (hb.mono HBW.out)); have HK_ := Lib.hid (HK.out.below hb hg.size); have HM_ := Lib.hid (show DnM w3 bm (out.length + 1 + 1) (upd (dn id out) x.f2 true) from OwnM.move HM.out (hb.block bm HBM.out)); have HO_ := Lib.hid ho; clear HB HK HM HO HX HAP lx cx2 ho hb hg hat; have HB := HB_; have HK := HK_; have HM := HM_; have HO := HO_; clear HB_ HK_ HM_ HO_))
                go_roundw
                case measure => first | (rw [q2]; exact lower hjl) | (simp only [intOf]; omega)
                case rel => exact ⟨j + 1, out, hjl, by first | rw [q2] | simp, ⟨by have h := HC2.out; rw [HIF.out, if_neg (by simp)] at h; exact h⟩, ⟨by have := hLn.out; omega⟩, ⟨HB.out⟩, ⟨HK.out⟩, ⟨HM.out⟩, ⟨HO.out⟩⟩
            · have HD1 := Lib.hid hd1
              rcases hd2 : dn id out x.f2 with _ | _
              · have HD2 := Lib.hid hd2
                clear hd1 hd2
                have HIF := Lib.hid (show (decide (x.f0 = n) && (dn id out n && !dn id out x.f2)) = false by rw [HD0.out, HD1.out, HD2.out]; rfl)
                go_wp2_with (first | ((with_reducible refine gate_dst (N := 10) rfl ?_); refine box_event ?hg (N := 10) ?hd (cs := #[.int .i64 0, .int .i64 0, .int .i64 0, .int .i64 0]) (t := 45) ?hr ?_; (case hd => rfl); (case hg => rfl); (case hr => first | (go_simp; done) | (go_simp; rfl)); intro gl hg_ w10 hbox hb; have HGL := Lib.hid (show B1 ≤ gl by rw [hg_]; exact HK.out.1); have NL := Lib.hid (show gl ≠ bm by rw [hg_]; exact (Nat.ne_of_lt HM.out.lt).symm); have HB_ := Lib.hid (below_step HB.out hb); have HK_ := Lib.hid (HK.out.below1 hb); have HM_ := Lib.hid (show DnM _ bm (out.length + 1) (dn id out) from OwnM.below HM.out hb); have HO_ := Lib.hid (Kd.R_below HO.out hb); clear HB HK HM HO h0 h1 h2 h3; have HB := HB_; have HK := HK_; have HM := HM_; have HO := HO_; clear HB_ HK_ HM_ HO_; have HX := Lib.hid hbox; clear hbox hb hg_) | ((with_reducible refine gate_store (t := 45) (p := 10) rfl ?_); refine wpList_put rfl rfl 45 _ _ rfl (off := 0) (cur := #[.int .i64 0, .int .i64 0, .int .i64 0, .int .i64 0]) HX.out (by rfl) (.agg #[.int .i64 x.f0, .int .i64 x.f1, .int .i64 x.f2, .int .i64 x.f3]) (by rfl) [.int .i64 x.f0, .int .i64 x.f1, .int .i64 x.f2, .int .i64 x.f3] rfl (by kernel_rfl) (by simp) (four_cells _ _ _ _) #[.int .i64 x.f0, .int .i64 x.f1, .int .i64 x.f2, .int .i64 x.f3] rfl ?_; intro w_ hx_ hg_; have HB_ := Lib.hid (bel_grown HB.out hg_ (Nat.le_trans HBW.out HGL.out) HB.out.size); have HK_ := Lib.hid (HK.out.grown hg_ (.inr HGL.out)); have HM_ := Lib.hid (show DnM _ bm (out.length + 1) (dn id out) from OwnM.grown HM.out hg_ (fun h => by injection h with h; exact NL.out h.symm)); have HO_ := Lib.hid (Kd.R_grown2 HO.out rfl hg_ (fun k_ hk_ => by injection hk_ with hk_; subst hk_; exact Kd.R_ne HO.out HX.out (by decide))); clear HB HK HM HO HX; have HB := HB_; have HK := HK_; have HM := HM_; have HO := HO_; clear HB_ HK_ HM_ HO_; have HX := Lib.hid hx_; clear hx_ hg_; have lx := hlt HX.out; have cx0 := cel0 HX.out 0 _ rfl; have cx2 := cel0 HX.out 2 _ rfl; have hk1 := (DnM.look HM.out n HNW_.out).trans (by rw [HD1.out]); have hk2 := (DnM.look HM.out x.f2 HXW.out).trans (by rw [HD2.out])) | (at_mapUpdate; refine wpList_store rfl _ _ _ 72 rfl Try.underlying3 Try.underlying72 _ _ _ rfl HM.out (by have := HLB.out; unfold maxLen; omega) _ _ rfl rfl HXW.out ?_; intro w_ ho hg_; clear lx cx0 cx2 hk1 hk2; have HM_ := Lib.hid (show DnM w_ bm (out.length + 1 + 1) (upd (dn id out) x.f2 true) from DnM.set ho); have HB_ := Lib.hid (bel_grown HB.out hg_ HGM.out HB.out.size); have HK_ := Lib.hid (HK.out.grown hg_ (.inl rfl)); have HO_ := Lib.hid (Kd.R_grown2 HO.out rfl hg_ (fun k_ hk_ => by injection hk_ with hk_; subst hk_; exact fun he => Nat.not_le.2 HBM.out (Kd.R_base HO.out _ he.symm))); have HX_ := Lib.hid (blk_grown HX.out hg_ (fun h => by injection h with h; exact NL.out h)); clear HB HK HM HO HX ho hg_; have HB := HB_; have HK := HK_; have HM := HM_; have HO := HO_; have HX := HX_; clear HB_ HK_ HM_ HO_ HX_; have lx := hlt HX.out; have cx2 := cel0 HX.out 2 _ rfl; have HAP := Lib.hid (Below.refl B1 w_)) | ((with_reducible refine gate_builtin (b := .append) (xs := #[.tmp 50, .tmp 53]) rfl ?_); at_builtin; refine Kd.R_append (Kd.int .i64) B1 rfl (.tmp 50) (.tmp 53) 31 3 (.int .i64 0) 8 rfl Try.underlying31 HI.out rfl (by decide) (by omega) (.slice Av out.length cv) out x.f2 [.int .i64 x.f2] (fun _ => True) (fun _ => False) rfl rfl rfl (fun _ hk => hk.elim) (fun _ _ => trivial) HO.out HAP.out HK.out.1 (by have := HLB.out; omega) ?_; intro v3 w3 ho hb hg hat; have HB_ := Lib.hid (HB.out.trans (hb.mono HBW.out)); have HK_ := Lib.hid (HK.out.below hb hg.size); have HM_ := Lib.hid (show DnM w3 bm (out.length + 1 + 1) (upd (dn id out) x.f2 true) from OwnM.move HM.out (hb.block bm HBM.out)); have HO_ := Lib.hid ho; clear HB HK HM HO HX HAP lx cx2 ho hb hg hat; have HB := HB_; have HK := HK_; have HM := HM_; have HO := HO_; clear HB_ HK_ HM_ HO_))
                go_roundw
                case measure => first | (rw [q2]; exact lower hjl) | (simp only [intOf]; omega)
                case rel => exact ⟨j + 1, out, hjl, by first | rw [q2] | simp, ⟨by have h := HC2.out; rw [HIF.out, if_neg (by simp)] at h; exact h⟩, ⟨by have := hLn.out; omega⟩, ⟨HB.out⟩, ⟨HK.out⟩, ⟨HM.out⟩, ⟨HO.out⟩⟩
              · have HD2 := Lib.hid hd2
                clear hd1 hd2
                have HIF := Lib.hid (show (decide (x.f0 = n) && (dn id out n && !dn id out x.f2)) = false by rw [HD0.out, HD1.out, HD2.out]; rfl)
                go_wp2_with (first | ((with_reducible refine gate_dst (N := 10) rfl ?_); refine box_event ?hg (N := 10) ?hd (cs := #[.int .i64 0, .int .i64 0, .int .i64 0, .int .i64 0]) (t := 45) ?hr ?_; (case hd => rfl); (case hg => rfl); (case hr => first | (go_simp; done) | (go_simp; rfl)); intro gl hg_ w10 hbox hb; have HGL := Lib.hid (show B1 ≤ gl by rw [hg_]; exact HK.out.1); have NL := Lib.hid (show gl ≠ bm by rw [hg_]; exact (Nat.ne_of_lt HM.out.lt).symm); have HB_ := Lib.hid (below_step HB.out hb); have HK_ := Lib.hid (HK.out.below1 hb); have HM_ := Lib.hid (show DnM _ bm (out.length + 1) (dn id out) from OwnM.below HM.out hb); have HO_ := Lib.hid (Kd.R_below HO.out hb); clear HB HK HM HO h0 h1 h2 h3; have HB := HB_; have HK := HK_; have HM := HM_; have HO := HO_; clear HB_ HK_ HM_ HO_; have HX := Lib.hid hbox; clear hbox hb hg_) | ((with_reducible refine gate_store (t := 45) (p := 10) rfl ?_); refine wpList_put rfl rfl 45 _ _ rfl (off := 0) (cur := #[.int .i64 0, .int .i64 0, .int .i64 0, .int .i64 0]) HX.out (by rfl) (.agg #[.int .i64 x.f0, .int .i64 x.f1, .int .i64 x.f2, .int .i64 x.f3]) (by rfl) [.int .i64 x.f0, .int .i64 x.f1, .int .i64 x.f2, .int .i64 x.f3] rfl (by kernel_rfl) (by simp) (four_cells _ _ _ _) #[.int .i64 x.f0, .int .i64 x.f1, .int .i64 x.f2, .int .i64 x.f3] rfl ?_; intro w_ hx_ hg_; have HB_ := Lib.hid (bel_grown HB.out hg_ (Nat.le_trans HBW.out HGL.out) HB.out.size); have HK_ := Lib.hid (HK.out.grown hg_ (.inr HGL.out)); have HM_ := Lib.hid (show DnM _ bm (out.length + 1) (dn id out) from OwnM.grown HM.out hg_ (fun h => by injection h with h; exact NL.out h.symm)); have HO_ := Lib.hid (Kd.R_grown2 HO.out rfl hg_ (fun k_ hk_ => by injection hk_ with hk_; subst hk_; exact Kd.R_ne HO.out HX.out (by decide))); clear HB HK HM HO HX; have HB := HB_; have HK := HK_; have HM := HM_; have HO := HO_; clear HB_ HK_ HM_ HO_; have HX := Lib.hid hx_; clear hx_ hg_; have lx := hlt HX.out; have cx0 := cel0 HX.out 0 _ rfl; have cx2 := cel0 HX.out 2 _ rfl; have hk1 := (DnM.look HM.out n HNW_.out).trans (by rw [HD1.out]); have hk2 := (DnM.look HM.out x.f2 HXW.out).trans (by rw [HD2.out])) | (at_mapUpdate; refine wpList_store rfl _ _ _ 72 rfl Try.underlying3 Try.underlying72 _ _ _ rfl HM.out (by have := HLB.out; unfold maxLen; omega) _ _ rfl rfl HXW.out ?_; intro w_ ho hg_; clear lx cx0 cx2 hk1 hk2; have HM_ := Lib.hid (show DnM w_ bm (out.length + 1 + 1) (upd (dn id out) x.f2 true) from DnM.set ho); have HB_ := Lib.hid (bel_grown HB.out hg_ HGM.out HB.out.size); have HK_ := Lib.hid (HK.out.grown hg_ (.inl rfl)); have HO_ := Lib.hid (Kd.R_grown2 HO.out rfl hg_ (fun k_ hk_ => by injection hk_ with hk_; subst hk_; exact fun he => Nat.not_le.2 HBM.out (Kd.R_base HO.out _ he.symm))); have HX_ := Lib.hid (blk_grown HX.out hg_ (fun h => by injection h with h; exact NL.out h)); clear HB HK HM HO HX ho hg_; have HB := HB_; have HK := HK_; have HM := HM_; have HO := HO_; have HX := HX_; clear HB_ HK_ HM_ HO_ HX_; have lx := hlt HX.out; have cx2 := cel0 HX.out 2 _ rfl; have HAP := Lib.hid (Below.refl B1 w_)) | ((with_reducible refine gate_builtin (b := .append) (xs := #[.tmp 50, .tmp 53]) rfl ?_); at_builtin; refine Kd.R_append (Kd.int .i64) B1 rfl (.tmp 50) (.tmp 53) 31 3 (.int .i64 0) 8 rfl Try.underlying31 HI.out rfl (by decide) (by omega) (.slice Av out.length cv) out x.f2 [.int .i64 x.f2] (fun _ => True) (fun _ => False) rfl rfl rfl (fun _ hk => hk.elim) (fun _ _ => trivial) HO.out HAP.out HK.out.1 (by have := HLB.out; omega) ?_; intro v3 w3 ho hb hg hat; have HB_ := Lib.hid (HB.out.trans (hb.mono HBW.out)); have HK_ := Lib.hid (HK.out.below hb hg.size); have HM_ := Lib.hid (show DnM w3 bm (out.length + 1 + 1) (upd (dn id out) x.f2 true) from OwnM.move HM.out (hb.block bm HBM.out)); have HO_ := Lib.hid ho; clear HB HK HM HO HX HAP lx cx2 ho hb hg hat; have HB := HB_; have HK := HK_; have HM := HM_; have HO := HO_; clear HB_ HK_ HM_ HO_))
                go_roundw
                case measure => first | (rw [q2]; exact lower hjl) | (simp only [intOf]; omega)
                case rel => exact ⟨j + 1, out, hjl, by first | rw [q2] | simp, ⟨by have h := HC2.out; rw [HIF.out, if_neg (by simp)] at h; exact h⟩, ⟨by have := hLn.out; omega⟩, ⟨HB.out⟩, ⟨HK.out⟩, ⟨HM.out⟩, ⟨HO.out⟩⟩
        · obtain rfl : j = ls.length := by omega
          have hC2 := hC.out
          rw [List.drop_length, show inn id n [] out = out from rfl] at hC2
          have HC2 := Lib.hid hC2
          clear hC hC2
          go_wp2
          go_roundw
          case measure => first | (rw [p2]; exact lower HIL.out) | (simp only [intOf]; omega)
          case rel => exact ⟨i + 1, out, HIL.out, by first | rw [p2] | simp, ⟨HC2.out⟩, ⟨by have := hLn.out; have := HLL.out; omega⟩, ⟨HB.out⟩, ⟨HK.out⟩, ⟨HM.out⟩, ⟨HO.out⟩⟩
    · obtain rfl : i = ord.length := by omega
      have hC2 := hC.out
      rw [List.drop_length, show rch id ls [] out = out from rfl] at hC2
      subst hC2
      have HLB := Lib.hid (show out.length ≤ 1000000 by have := hLn.out; have := HOL.out; omega)
      have HS := Lib.hid (sort_calls _ _ B1 out w wr HB.out HBW.out HLB.out HO.out)
      clear hC hLn
      go_wp2_with (go_at_call 48; (with_reducible refine HS.out.mono ?_); rintro e w_ ⟨rfl, hb, hr⟩; have HB2 := Lib.hid hb; have HR2_ := Lib.hid hr; clear hb hr)
      go_ret
      exact ⟨_, rfl, HR2_.out, HB2.out⟩
theorem reach_calls (A : Option Addr) (c : Nat) (ns : List Nd) (A2 : Option Addr) (c2 : Nat) (ls : List Lk) (id : Int) (w : World) (hr : Rd kN w A c ns) (hr2 : Rd kL w A2 c2 ls) (hnw : ∀ n ∈ ns, wf n.f0) (hlw : ∀ l ∈ ls, wf l.f0 ∧ wf l.f2) (hid : wf id) :
    Calls Try.prog 17 #[.agg #[.slice A ns.length c, .slice A2 ls.length c2], .int .i64 id] w fun e w' => ∃ v0_ : Value, e = .returned v0_ ∧ Kd.R (Kd.int .i64) 3 w' w.heap.size (fun _ => True) v0_ (reachF ns ls id) ∧ Below w.heap.size w w' := by
  have HV := fun (W : World) (hb : Below w.heap.size w W) => valid_calls A c ns A2 c2 ls W (hr.below hb) (hr2.below hb) hnw hlw
  unfold reachF
  cases hv : validF ns ls
  · rw [hv] at HV
    rw [if_neg (by simp)]
    exact reach0 A c ns A2 c2 ls id w (Lib.hid hr) (Lib.hid hr2) (Lib.hid HV)
  · rw [hv] at HV
    rw [if_pos rfl]
    obtain ⟨hn64, hl256⟩ := validF_len hv
    have hol : (ordF ns ls).length ≤ 64 := by
      unfold validF at hv
      simp only [Bool.and_eq_true] at hv
      have := of_decide_eq_true hv.2.2.2
      omega
    exact reach1 A c ns A2 c2 ls id w (Lib.hid hr) (Lib.hid hr2) (Lib.hid HV) (Lib.hid hid) (ordF ns ls) (Lib.hid fun W hb => order_calls A c ns A2 c2 ls W (hr.below hb) (hr2.below hb) (by omega) (by omega) hnw (fun l hl => (hlw l hl).2)) (Lib.hid (ordF_mem ns ls wf hnw)) (Lib.hid fun l hl => (hlw l hl).2) (Lib.hid hol) (Lib.hid hl256)
end Go.Proofs.YtcbpghpfdjfddaaG
namespace Go.Proofs.Ytcbpghpfdjfddaa.Q
open Go Go.RowKit Go.Proofs.YtcbpghpfdjfddaaMp Go.Proofs.YtcbpghpfdjfddaaW.PrintWords Go.Proofs.YtcbpghpfdjfddaaW.PrintLast Go.Proofs.YtcbpghpfdjfddaaW.PrintMore
end Go.Proofs.Ytcbpghpfdjfddaa.Q
-- Declarations of the text that this claim uses (slim.py, a program of this session).
namespace Go.Proofs.YtcbpghpfdjfddaaG
open Go Go.RowKit Go.Proofs.YtcbpghpfdjfddaaMp Go.Proofs.Ytcbpghpfdjfddaa.Q
set_option linter.unusedVariables false
set_option linter.unusedSimpArgs false
def Topo (ls : List Lk) (o : List Int) : Prop := ∀ l ∈ ls, l.f2 ∈ o → o.idxOf l.f0 < o.idxOf l.f2
structure RI (ns : List Nd) (ls : List Lk) (o : List Int) : Prop where
  topo : Topo ls o
  nodup : o.Nodup
  sub : ∀ y ∈ o, ∃ n ∈ ns, n.f0 = y
  mem : ∀ l ∈ ls, l.f2 ∈ o → l.f0 ∈ o
def Fre (ls : List Lk) (out : List Int) (id : Int) : Prop := id ∉ out ∧ ∀ l ∈ ls, l.f2 = id → l.f0 ∈ out
theorem frL_spec (out : List Int) (id : Int) : ∀ (ls : List Lk) (b : Bool), frL out id ls b = true ↔ b = true ∧ ∀ l ∈ ls, l.f2 = id → l.f0 ∈ out
  | [], b => by simp [frL]
  | l :: r, b => by
    show frL out id r _ = true ↔ _
    rw [frL_spec out id r]
    simp only [Bool.and_eq_true, Bool.or_eq_true, decide_eq_true_eq, List.contains_iff_mem, List.mem_cons]
    constructor
    · rintro ⟨⟨hb, h⟩, hr⟩
      refine ⟨hb, fun l' hl' e => ?_⟩
      rcases hl' with rfl | hl'
      · rcases h with h | h
        · exact absurd e h
        · exact h
      · exact hr l' hl' e
    · rintro ⟨hb, h⟩
      refine ⟨⟨hb, ?_⟩, fun l' hl' e => h l' (.inr hl') e⟩
      by_cases e : l.f2 = id
      · exact .inr (h l (.inl rfl) e)
      · exact .inl e
theorem fre_iff (ls : List Lk) (out : List Int) (id : Int) : frL out id ls (!out.contains id) = true ↔ Fre ls out id := by
  rw [frL_spec]
  unfold Fre
  simp
theorem nxt_free (ls : List Lk) (out : List Int) : ∀ (ns : List Nd) (x : Int), nxt ls out ns x = x ∨ ∃ n ∈ ns, nxt ls out ns x = n.f0 ∧ Fre ls out n.f0
  | [], x => .inl rfl
  | n :: r, x => by
    rw [nxt_cons]
    rcases nxt_free ls out r (if frL out n.f0 ls (!out.contains n.f0) = true then (if x = 0 then n.f0 else x) else x) with h | ⟨m, hm, h⟩
    · rw [h]
      split
      · rename_i hf
        split
        · exact .inr ⟨n, List.mem_cons_self, rfl, (fre_iff _ _ _).1 hf⟩
        · exact .inl rfl
      · exact .inl rfl
    · exact .inr ⟨m, List.mem_cons_of_mem _ hm, h⟩
theorem nxt_nz (ls : List Lk) (out : List Int) : ∀ (ns : List Nd) (x : Int), x ≠ 0 → nxt ls out ns x = x
  | [], x, _ => rfl
  | n :: r, x, hx => by
    rw [nxt_cons, if_neg hx, ite_self]
    exact nxt_nz ls out r x hx
theorem nxt_zero (ls : List Lk) (out : List Int) : ∀ (ns : List Nd), (∀ n ∈ ns, n.f0 ≠ 0) → nxt ls out ns 0 = 0 → ∀ n ∈ ns, ¬ Fre ls out n.f0
  | [], _, _, n, hn => by cases hn
  | m :: r, h0, h, n, hn => by
    rw [nxt_cons, if_pos rfl] at h
    by_cases hf : frL out m.f0 ls (!out.contains m.f0) = true
    · rw [if_pos hf, nxt_nz ls out r _ (h0 m List.mem_cons_self)] at h
      exact absurd h (h0 m List.mem_cons_self)
    · rw [if_neg hf] at h
      rcases List.mem_cons.1 hn with rfl | hn
      · exact fun e => hf ((fre_iff _ _ _).2 e)
      · exact nxt_zero ls out r (fun n hn => h0 n (List.mem_cons_of_mem _ hn)) h n hn
theorem idx_app {a b : List Int} {y : Int} (h : y ∈ a) : (a ++ b).idxOf y = a.idxOf y := by rw [List.idxOf_append, if_pos h]
theorem idx_new {a : List Int} {y : Int} (h : y ∉ a) : (a ++ [y]).idxOf y = a.length := by rw [List.idxOf_append, if_neg h]; simp
theorem RI.snoc {ns : List Nd} {ls : List Lk} {o : List Int} (h : RI ns ls o) {y : Int} (hy : ∃ n ∈ ns, n.f0 = y) (hf : Fre ls o y) : RI ns ls (o ++ [y]) := by
  refine ⟨fun l hl h2 => ?_, ?_, fun z hz => ?_, fun l hl h2 => ?_⟩
  · rcases List.mem_append.1 h2 with h2 | h2
    · rw [idx_app h2, idx_app (h.mem l hl h2)]
      exact h.topo l hl h2
    · have e := List.mem_singleton.1 h2
      have h0 := hf.2 l hl e
      rw [idx_app h0, e, idx_new hf.1]
      exact List.idxOf_lt_length_of_mem h0
  · rw [List.nodup_append]
    exact ⟨h.nodup, by simp, fun a ha b hb e => hf.1 (by rw [← List.mem_singleton.1 hb, ← e]; exact ha)⟩
  · rcases List.mem_append.1 hz with hz | hz
    · exact h.sub z hz
    · rw [List.mem_singleton.1 hz]; exact hy
  · rcases List.mem_append.1 h2 with h2 | h2
    · exact List.mem_append_left _ (h.mem l hl h2)
    · exact List.mem_append_left _ (hf.2 l hl (List.mem_singleton.1 h2))
theorem rord_ri {ns : List Nd} {ls : List Lk} : ∀ (k : Nat) (o : List Int), RI ns ls o → RI ns ls (rord ns ls k o)
  | 0, o, h => h
  | k + 1, o, h => by
    rw [rord]
    split
    · exact h
    · rename_i hne
      rcases nxt_free ls o ns 0 with e | ⟨n, hn, e, hf⟩
      · exact absurd e hne
      · rw [e]
        exact rord_ri k _ (h.snoc ⟨n, hn, rfl⟩ hf)
theorem ri_nil (ns : List Nd) (ls : List Lk) : RI ns ls [] := ⟨fun l _ h => (by cases h), List.nodup_nil, fun y h => (by cases h), fun l _ h => (by cases h)⟩
theorem rordF_ri (ns : List Nd) (ls : List Lk) : RI ns ls (rordF ns ls) := rord_ri _ _ (ri_nil ns ls)
theorem rordF_end {ns : List Nd} {ls : List Lk} (h0 : ∀ n ∈ ns, n.f0 ≠ 0) : ∀ n ∈ ns, ¬ Fre ls (rordF ns ls) n.f0 :=
  nxt_zero ls _ ns h0 (rord_end ns ls _ [] (List.length_filter_le _ _))
theorem left_same {ns : List Nd} {out : List Int} {y : Int} (h : ∀ n ∈ ns, n.f0 ≠ y) : left ns (out ++ [y]) = left ns out := by
  unfold left
  congr 1
  refine List.filter_congr fun n hn => ?_
  rw [List.contains_append]
  have : [y].contains n.f0 = false := by simp [h n hn]
  rw [this, Bool.or_false]
theorem left_snoc : ∀ {ns : List Nd} {out : List Int} {y : Int}, ns.Pairwise (fun a b => a.f0 < b.f0) → (∃ n ∈ ns, n.f0 = y) → y ∉ out → left ns (out ++ [y]) + 1 = left ns out
  | [], _, _, _, ⟨n, hn, _⟩, _ => by cases hn
  | m :: r, out, y, hp, hy, hno => by
    have hp' := List.pairwise_cons.1 hp
    by_cases e : m.f0 = y
    · have hr : left r (out ++ [y]) = left r out := left_same fun n hn => by have := hp'.1 n hn; omega
      have h1 : out.contains m.f0 = false := by rw [e]; simpa using hno
      have h2 : (out ++ [y]).contains m.f0 = true := by rw [e]; simp
      unfold left at hr ⊢
      rw [List.filter_cons, List.filter_cons, h1, h2, if_neg (by simp), if_pos (by simp), List.length_cons, hr]
    · obtain ⟨n, hn, hny⟩ := hy
      have hn' : n ∈ r := by
        rcases List.mem_cons.1 hn with rfl | hn
        · exact absurd hny e
        · exact hn
      have ih := left_snoc hp'.2 ⟨n, hn', hny⟩ hno
      have h2 : (out ++ [y]).contains m.f0 = out.contains m.f0 := by
        rw [List.contains_append]
        have : [y].contains m.f0 = false := by simp [e]
        rw [this, Bool.or_false]
      unfold left at ih ⊢
      rw [List.filter_cons, List.filter_cons, h2]
      split
      · rw [List.length_cons, List.length_cons]; omega
      · exact ih
theorem left_len {ns : List Nd} (hp : ns.Pairwise (fun a b => a.f0 < b.f0)) {ls : List Lk} : ∀ (k : Nat) (o : List Int), left ns o + o.length = ns.length → left ns (rord ns ls k o) + (rord ns ls k o).length = ns.length
  | 0, o, h => h
  | k + 1, o, h => by
    rw [rord]
    split
    · exact h
    · rename_i hne
      rcases nxt_free ls o ns 0 with e | ⟨n, hn, e, hf⟩
      · exact absurd e hne
      · refine left_len hp k _ ?_
        have := left_snoc hp ⟨n, hn, rfl⟩ hf.1
        rw [e, List.length_append, List.length_singleton]
        omega
theorem rordF_len {ns : List Nd} (hp : ns.Pairwise (fun a b => a.f0 < b.f0)) (ls : List Lk) : left ns (rordF ns ls) + (rordF ns ls).length = ns.length :=
  left_len hp _ _ (by unfold left; simp)
theorem full_iff {ns : List Nd} (hp : ns.Pairwise (fun a b => a.f0 < b.f0)) (ls : List Lk) : (rordF ns ls).length = ns.length ↔ ∀ n ∈ ns, n.f0 ∈ rordF ns ls := by
  have h := rordF_len hp ls
  constructor
  · intro e n hn
    have h0 : left ns (rordF ns ls) = 0 := by omega
    unfold left at h0
    have := List.length_eq_zero_iff.1 h0
    have h1 := List.filter_eq_nil_iff.1 this n hn
    simpa using h1
  · intro hall
    have h0 : left ns (rordF ns ls) = 0 := by
      unfold left
      rw [List.length_eq_zero_iff, List.filter_eq_nil_iff]
      intro n hn
      simp [hall n hn]
    omega
theorem dn_iff (id : Int) (out : List Int) (x : Int) : dn id out x = true ↔ x = id ∨ x ∈ out := by unfold dn; simp
theorem inn_mem (id n z : Int) : ∀ (ls : List Lk) (out : List Int), z ∈ inn id n ls out ↔ z ∈ out ∨ (dn id out n = true ∧ z ≠ id ∧ ∃ l ∈ ls, l.f0 = n ∧ l.f2 = z)
  | [], out => by show z ∈ out ↔ _; simp
  | l :: r, out => by
    rw [inn_cons, inn_mem id n z r]
    by_cases hc : (decide (l.f0 = n) && (dn id out n && !dn id out l.f2)) = true
    · rw [if_pos hc]
      simp only [Bool.and_eq_true, decide_eq_true_eq, Bool.not_eq_true'] at hc
      obtain ⟨h1, h2, h3⟩ := hc
      have h4 : dn id (out ++ [l.f2]) n = true := by rw [dn_snoc, h2, ite_self]
      have h5 : ¬ (l.f2 = id ∨ l.f2 ∈ out) := fun e => by rw [(dn_iff id out l.f2).2 e] at h3; cases h3
      constructor
      · rintro (h | ⟨_, hz, l', hl', e⟩)
        · rcases List.mem_append.1 h with h | h
          · exact .inl h
          · rw [List.mem_singleton.1 h]
            exact .inr ⟨h2, fun e => h5 (.inl e), l, List.mem_cons_self, h1, rfl⟩
        · exact .inr ⟨h2, hz, l', List.mem_cons_of_mem _ hl', e⟩
      · rintro (h | ⟨_, hz, l', hl', e1, e2⟩)
        · exact .inl (List.mem_append_left _ h)
        · rcases List.mem_cons.1 hl' with rfl | hl'
          · exact .inl (List.mem_append_right _ (by rw [e2]; simp))
          · exact .inr ⟨h4, hz, l', hl', e1, e2⟩
    · rw [if_neg hc]
      constructor
      · rintro (h | ⟨h2, hz, l', hl', e⟩)
        · exact .inl h
        · exact .inr ⟨h2, hz, l', List.mem_cons_of_mem _ hl', e⟩
      · rintro (h | ⟨h2, hz, l', hl', e1, e2⟩)
        · exact .inl h
        · rcases List.mem_cons.1 hl' with rfl | hl'
          · have h3 : dn id out l'.f2 = true := by
              cases hd : dn id out l'.f2 with
              | true => rfl
              | false => exact absurd (by simp [e1, h2, hd]) hc
            rcases (dn_iff id out l'.f2).1 h3 with h | h
            · exact absurd (e2.symm.trans h) hz
            · exact .inl (e2 ▸ h)
          · exact .inr ⟨h2, hz, l', hl', e1, e2⟩
theorem rch_mono (id z : Int) (ls : List Lk) : ∀ (b out : List Int), z ∈ out → z ∈ rch id ls b out
  | [], out, h => h
  | n :: r, out, h => rch_mono id z ls r _ ((inn_mem id n z ls out).2 (.inl h))
theorem rch_from (id z : Int) (ls : List Lk) : ∀ (b out : List Int), z ∈ rch id ls b out → z ∈ out ∨ ∃ l ∈ ls, l.f0 ∈ b ∧ l.f2 = z
  | [], out, h => .inl h
  | n :: r, out, h => by
    rcases rch_from id z ls r _ h with h | ⟨l, hl, h1, h2⟩
    · rcases (inn_mem id n z ls out).1 h with h | ⟨_, _, l, hl, h1, h2⟩
      · exact .inl h
      · exact .inr ⟨l, hl, by rw [h1]; exact List.mem_cons_self, h2⟩
    · exact .inr ⟨l, hl, List.mem_cons_of_mem _ h1, h2⟩
theorem rch_append (id : Int) (ls : List Lk) : ∀ (a b out : List Int), rch id ls (a ++ b) out = rch id ls b (rch id ls a out)
  | [], b, out => rfl
  | n :: r, b, out => rch_append id ls r b _
theorem rch_ind (id : Int) (ls : List Lk) (p : Int → Prop) (hp : ∀ l ∈ ls, l.f2 ≠ id → (l.f0 = id ∨ p l.f0) → p l.f2) : ∀ (b out : List Int), (∀ z ∈ out, p z) → ∀ z ∈ rch id ls b out, p z
  | [], out, h => h
  | n :: r, out, h => by
    refine rch_ind id ls p hp r _ fun z hz => ?_
    rcases (inn_mem id n z ls out).1 hz with h1 | ⟨h1, h2, l, hl, e1, e2⟩
    · exact h z h1
    · rw [← e2]
      refine hp l hl (by rw [e2]; exact h2) ?_
      rw [e1]
      rcases (dn_iff id out n).1 h1 with h3 | h3
      · exact .inl h3
      · exact .inr (h n h3)
theorem rch_closed {id : Int} {ls : List Lk} {o : List Int} (ht : Topo ls o) (hnd : o.Nodup) {l : Lk} (hl : l ∈ ls) (h0 : l.f0 ∈ o) (h : l.f0 = id ∨ l.f0 ∈ rch id ls o []) : l.f2 = id ∨ l.f2 ∈ rch id ls o [] := by
  obtain ⟨a, b, hab⟩ := List.append_of_mem h0
  have hna : l.f0 ∉ a := by
    rw [hab, List.nodup_append] at hnd
    exact fun e => hnd.2.2 _ e _ List.mem_cons_self rfl
  have hi : o.idxOf l.f0 = a.length := by rw [hab, List.idxOf_append, if_neg hna]; simp
  have hd : dn id (rch id ls a []) l.f0 = true := by
    rw [dn_iff]
    rcases h with h | h
    · exact .inl h
    · rw [hab, rch_append] at h
      rcases rch_from id l.f0 ls (l.f0 :: b) _ h with h | ⟨k, hk, hk0, hk2⟩
      · exact .inr h
      · have h1 := ht k hk (by rw [hk2]; exact h0)
        rw [hk2, hi] at h1
        have h2 : k.f0 ∉ a := by
          rw [hab, List.nodup_append] at hnd
          exact fun e => hnd.2.2 _ e _ hk0 rfl
        rw [hab, List.idxOf_append, if_neg h2] at h1
        omega
  by_cases e : l.f2 = id
  · exact .inl e
  · right
    rw [hab, rch_append, rch_cons]
    exact rch_mono _ _ _ _ _ ((inn_mem _ _ _ _ _).2 (.inr ⟨hd, e, l, hl, rfl, rfl⟩))
end Go.Proofs.YtcbpghpfdjfddaaG
-- Declarations of the text that this claim uses (slim.py, a program of this session).
namespace Go.Proofs.YtcbpghpfdjfddaaG
open Go Go.RowKit Go.Proofs.YtcbpghpfdjfddaaMp Go.Proofs.Ytcbpghpfdjfddaa.Q
set_option linter.unusedVariables false
set_option linter.unusedSimpArgs false
theorem cmpL_trans {a b c : Lk} (h1 : cmpL a b < 0) (h2 : cmpL b c < 0) : cmpL a c < 0 := by
  rw [cmpL_neg] at *
  omega
theorem cmpL_swap {a b : Lk} (h1 : ¬ cmpL a b < 0) (h2 : cmpL a b ≠ 0) : cmpL b a < 0 := by
  rw [cmpL_neg] at *
  have h3 : ¬ (a.f0 = b.f0 ∧ a.f1 = b.f1 ∧ a.f2 = b.f2 ∧ a.f3 = b.f3) := fun e => h2 ((cmpL_zero a b).2 e)
  omega
def SL (ns : List Nd) (a b : Lk) : Prop := cmpL a b < 0 ∧ clashB ns a b = false
theorem lok_to (ns : List Nd) : ∀ (r pre : List Lk), pre.Pairwise (SL ns) → lokR ns pre r = true → (pre ++ r).Pairwise (SL ns) ∧ ∀ l ∈ r, endsB ns l = true
  | [], pre, hp, _ => by rw [List.append_nil]; exact ⟨hp, fun l h => by cases h⟩
  | l :: r, pre, hp, h => by
    rw [lok_cons] at h
    simp only [Bool.and_eq_true, Bool.not_eq_true'] at h
    obtain ⟨h1, h2, h3, h4⟩ := h
    have hlast : ∀ q ∈ pre, cmpL q l < 0 := by
      intro q hq
      rcases List.eq_nil_or_concat pre with rfl | ⟨a, b, rfl⟩
      · cases hq
      · have hb : cmpL b l < 0 := by
          rw [List.concat_eq_append, List.getLast?_concat] at h2
          exact of_decide_eq_true h2
        rw [List.concat_eq_append] at hq hp
        rcases List.mem_append.1 hq with hq | hq
        · exact cmpL_trans ((List.pairwise_append.1 hp).2.2 q hq b (by simp)).1 hb
        · rw [List.mem_singleton.1 hq]; exact hb
    have hp' : (pre ++ [l]).Pairwise (SL ns) := by
      rw [List.pairwise_append]
      refine ⟨hp, List.pairwise_singleton _ _, fun q hq b hb => ?_⟩
      rw [List.mem_singleton.1 hb]
      refine ⟨hlast q hq, ?_⟩
      have := List.any_eq_false.1 h3 q hq
      simpa using this
    obtain ⟨g1, g2⟩ := lok_to ns r (pre ++ [l]) hp' h4
    rw [List.append_assoc, List.singleton_append] at g1
    refine ⟨g1, fun k hk => ?_⟩
    rcases List.mem_cons.1 hk with rfl | hk
    · exact h1
    · exact g2 k hk
theorem lok_of (ns : List Nd) : ∀ (r pre : List Lk), (pre ++ r).Pairwise (SL ns) → (∀ l ∈ r, endsB ns l = true) → lokR ns pre r = true
  | [], pre, _, _ => rfl
  | l :: r, pre, hp, he => by
    have hp2 := (List.pairwise_append.1 hp).2.2
    rw [lok_cons, he l List.mem_cons_self, lok_of ns r (pre ++ [l]) (by rw [List.append_assoc]; exact hp) (fun k hk => he k (List.mem_cons_of_mem _ hk))]
    have h1 : after_ pre.getLast? l = true := by
      rcases List.eq_nil_or_concat pre with rfl | ⟨a, b, rfl⟩
      · rfl
      · rw [List.concat_eq_append, List.getLast?_concat]
        exact decide_eq_true (hp2 b (by simp) l List.mem_cons_self).1
    have h2 : (pre.any fun k => clashB ns k l) = false := by
      rw [List.any_eq_false]
      intro q hq
      rw [(hp2 q hq l List.mem_cons_self).2]
      simp
    rw [h1, h2]
    rfl
theorem lok_iff (ns : List Nd) (ls : List Lk) : lokR ns [] ls = true ↔ ls.Pairwise (SL ns) ∧ ∀ l ∈ ls, endsB ns l = true :=
  ⟨fun h => lok_to ns ls [] List.Pairwise.nil h, fun h => lok_of ns ls [] h.1 h.2⟩
theorem clash_symm (ns : List Nd) (a b : Lk) : clashB ns a b = clashB ns b a := by
  have bc : ∀ p q : Int, (p == q) = (q == p) := fun p q => by rw [Bool.eq_iff_iff, beq_iff_eq, beq_iff_eq]; exact eq_comm
  unfold clashB
  rw [bc b.f2 a.f2, bc b.f0 a.f0, bc b.f3 a.f3, bc b.f1 a.f1]
  by_cases h1 : a.f2 = b.f2
  · by_cases h2 : a.f0 = b.f0
    · rw [h1, h2]
    · have h3 : (a.f0 == b.f0) = false := by simpa using h2
      rw [h1, h3]
      simp
  · have h3 : (a.f2 == b.f2) = false := by simpa using h1
    rw [h3]
    by_cases h2 : a.f0 = b.f0
    · rw [h2]
      simp
    · have h5 : (a.f0 == b.f0) = false := by simpa using h2
      rw [h5]
      simp
theorem pw_get {R : Lk → Lk → Prop} {ls : List Lk} (h : ls.Pairwise R) {i j : Nat} (hij : i < j) (hj : j < ls.length) : R (ls[i]'(by omega)) ls[j] := List.pairwise_iff_getElem.1 h i j (by omega) hj hij
theorem bsx_spec {ns : List Nd} {ls : List Lk} (h : ls.Pairwise (SL ns)) (x : Lk) : (∀ l ∈ ls.take (bsx ls x), cmpL l x < 0) ∧ ∀ l ∈ ls.drop (bsx ls x), ¬ cmpL l x < 0 := by
  have hz : ∀ (t : Nat) (ht : t < ls.length), ls.getD t z45 = ls[t] := fun t ht => by rw [List.getD_eq_getElem?_getD, List.getElem?_eq_getElem ht]; rfl
  -- beyond the end nothing is asked
  have key : ∀ (k i j : Nat), j ≤ ls.length → j - i ≤ k → i ≤ j → (∀ t, i ≤ t → t < bsIL (fun y => cmpL y x) ls k i j → cmpL (ls.getD t z45) x < 0) ∧ (∀ t, bsIL (fun y => cmpL y x) ls k i j ≤ t → t < j → ¬ cmpL (ls.getD t z45) x < 0) := by
    have hm : ∀ s t, s ≤ t → t < ls.length → cmpL (ls.getD t z45) x < 0 → cmpL (ls.getD s z45) x < 0 := by
      intro s t hst ht hc
      rcases Nat.lt_or_ge s t with h1 | h1
      · rw [hz t ht] at hc
        rw [hz s (by omega)]
        exact cmpL_trans (pw_get h h1 ht).1 hc
      · have : s = t := by omega
        rw [this]; exact hc
    intro k
    induction k with
    | zero => exact fun i j hj hk h => ⟨fun t h1 h2 => by unfold bsIL at h2; omega, fun t h1 h2 => by unfold bsIL at h1; omega⟩
    | succ k ih =>
      intro i j hj hk h
      unfold bsIL
      split
      · rename_i hlt
        split
        · rename_i hc
          obtain ⟨h1, h2⟩ := ih ((i + j) / 2 + 1) j hj (by omega) (by omega)
          refine ⟨fun t ht1 ht2 => ?_, h2⟩
          rcases Nat.lt_or_ge ((i + j) / 2) t with h3 | h3
          · exact h1 t h3 ht2
          · exact hm t _ h3 (by omega) hc
        · rename_i hc
          obtain ⟨h1, h2⟩ := ih i ((i + j) / 2) (by omega) (by omega) (by omega)
          refine ⟨h1, fun t ht1 ht2 => ?_⟩
          rcases Nat.lt_or_ge t ((i + j) / 2) with h3 | h3
          · exact h2 t ht1 h3
          · exact fun e => hc (hm _ t h3 (by omega) e)
      · rename_i hge
        exact ⟨fun t h1 h2 => by omega, fun t h1 h2 => by omega⟩
  obtain ⟨h1, h2⟩ := key ls.length 0 ls.length (Nat.le_refl _) (by omega) (Nat.zero_le _)
  have hle := bsx_le ls x
  constructor
  · intro l hl
    obtain ⟨i, hi, e⟩ := List.mem_iff_getElem.1 hl
    rw [List.length_take] at hi
    rw [List.getElem_take] at e
    have := h1 i (Nat.zero_le _) (by show i < bsx ls x; omega)
    rw [hz i (by omega), e] at this
    exact this
  · intro l hl
    obtain ⟨i, hi, e⟩ := List.mem_iff_getElem.1 hl
    rw [List.length_drop] at hi
    rw [List.getElem_drop] at e
    have := h2 (bsx ls x + i) (Nat.le_add_right _ _) (by omega)
    rw [hz _ (by omega), e] at this
    exact this
theorem insF_pw {ns : List Nd} {ls : List Lk} (h : ls.Pairwise (SL ns)) {x : Lk} (hf : fndB ls x = false) (hc : (ls.any fun k => clashB ns k x) = false) : (insF ls x).Pairwise (SL ns) := by
  obtain ⟨h1, h2⟩ := bsx_spec h x
  have hle := bsx_le ls x
  have hcl : ∀ k ∈ ls, clashB ns k x = false := fun k hk => by simpa using List.any_eq_false.1 hc k hk
  have hsplit : (ls.take (bsx ls x) ++ ls.drop (bsx ls x)).Pairwise (SL ns) := by rw [List.take_append_drop]; exact h
  obtain ⟨p1, p2, p3⟩ := List.pairwise_append.1 hsplit
  have hgt : ∀ l ∈ ls.drop (bsx ls x), cmpL x l < 0 := by
    intro l hl
    refine cmpL_swap (h2 l hl) fun e0 => ?_
    -- the first one behind is not x itself, so none is
    obtain ⟨i, hi, e⟩ := List.mem_iff_getElem.1 hl
    rw [List.length_drop] at hi
    rw [List.getElem_drop] at e
    have hb : bsx ls x < ls.length := by omega
    have hne : cmpL ls[bsx ls x] x ≠ 0 := by
      intro e1
      unfold fndB at hf
      rw [decide_eq_true hb, Bool.true_and, List.getD_eq_getElem?_getD, List.getElem?_eq_getElem hb] at hf
      exact absurd e1 (of_decide_eq_false hf)
    rcases Nat.eq_zero_or_pos i with h0 | h0
    · subst h0
      exact hne (by rw [← e] at e0; exact e0)
    · have h4 := (pw_get h (show bsx ls x < bsx ls x + i by omega) (by omega)).1
      rw [e] at h4
      have h5 := h2 _ (List.mem_iff_getElem.2 ⟨0, by rw [List.length_drop]; omega, by rw [List.getElem_drop]; rfl⟩ : ls[bsx ls x] ∈ _)
      rw [cmpL_zero] at e0
      rw [cmpL_neg] at h4 h5
      omega
  unfold insF
  rw [List.append_assoc, List.pairwise_append]
  refine ⟨p1, ?_, fun a ha b hb => ?_⟩
  · rw [List.singleton_append, List.pairwise_cons]
    exact ⟨fun b hb => ⟨hgt b hb, by rw [clash_symm]; exact hcl b (List.mem_of_mem_drop hb)⟩, p2⟩
  · rw [List.singleton_append] at hb
    rcases List.mem_cons.1 hb with rfl | hb
    · exact ⟨h1 a ha, hcl a (List.mem_of_mem_take ha)⟩
    · exact p3 a ha b hb
theorem mem_insF (ls : List Lk) (x : Lk) : ∀ l, l ∈ insF ls x ↔ l ∈ ls ∨ l = x := fun l => by
  refine ⟨insF_mem, fun h => ?_⟩
  unfold insF
  simp only [List.mem_append, List.mem_singleton]
  rcases h with h | h
  · have := List.take_append_drop (bsx ls x) ls
    rw [← this] at h
    rcases List.mem_append.1 h with h | h
    · exact .inl (.inl h)
    · exact .inr h
  · exact .inl (.inr h)
structure VG (ns : List Nd) (ls : List Lk) : Prop where
  n64 : ns.length ≤ 64
  l256 : ls.length ≤ 256
  nok : nokR none ns = true
  pw : ls.Pairwise (SL ns)
  ends : ∀ l ∈ ls, endsB ns l = true
  full : (ordF ns ls).length = ns.length
theorem valid_iff (ns : List Nd) (ls : List Lk) : validF ns ls = true ↔ VG ns ls := by
  unfold validF
  simp only [Bool.and_eq_true, decide_eq_true_eq, lok_iff]
  exact ⟨fun ⟨⟨a, b⟩, c, ⟨d, e⟩, f⟩ => ⟨a, b, c, d, e, f⟩, fun h => ⟨⟨h.n64, h.l256⟩, h.nok, ⟨h.pw, h.ends⟩, h.full⟩⟩
theorem nok_nz {ns : List Nd} (h : nokR none ns = true) : ∀ n ∈ ns, n.f0 ≠ 0 := fun n hn e => by
  have := (nok_asc ns none h).2.2 n hn
  unfold fineB at this
  simp [e] at this
theorem ends_ids {ns : List Nd} (h : nokR none ns = true) {l : Lk} (he : endsB ns l = true) : (∃ n ∈ ns, n.f0 = l.f0) ∧ ∃ n ∈ ns, n.f0 = l.f2 := by
  rw [ends_ports (nok_asc ns none h).1] at he
  unfold portsB at he
  simp only [Bool.and_eq_true] at he
  have hh : ∀ id, rh ns id = true → ∃ n ∈ ns, n.f0 = id := fun id hr => by
    unfold rh at hr
    rw [List.find?_isSome] at hr
    obtain ⟨n, hn, e⟩ := hr
    exact ⟨n, hn, by simpa using e⟩
  exact ⟨hh _ he.1, hh _ he.2.1⟩
theorem ord_ri {ns : List Nd} {ls : List Lk} (h : nokR none ns = true) : RI ns ls (ordF ns ls) := by
  rw [rordF_eq ns ls (nok_nz h)]
  exact rordF_ri ns ls
theorem ord_le {ns : List Nd} (ls : List Lk) (h : nokR none ns = true) : (ordF ns ls).length ≤ ns.length := by
  rw [rordF_eq ns ls (nok_nz h)]
  have := rordF_len (nok_asc ns none h).1 ls
  omega
theorem ord_all {ns : List Nd} {ls : List Lk} (h : nokR none ns = true) (hf : (ordF ns ls).length = ns.length) : ∀ n ∈ ns, n.f0 ∈ ordF ns ls := by
  rw [rordF_eq ns ls (nok_nz h)] at hf ⊢
  exact (full_iff (nok_asc ns none h).1 ls).1 hf
theorem srt_mem (l : List Int) (x : Int) : x ∈ srt l ↔ x ∈ l := by unfold srt; exact List.mem_mergeSort
theorem cycle_back {ns : List Nd} {ls : List Lk} (hv : VG ns ls) {x : Lk} (hx : endsB ns x = true) (hc : (ordF ns (insF ls x)).length < ns.length) : x.f0 = x.f2 ∨ x.f0 ∈ rch x.f2 ls (ordF ns ls) [] := by
  have hn := hv.nok
  have hri := ord_ri (ls := ls) hn
  have hall := ord_all hn hv.full
  have hend : ∀ n ∈ ns, ¬ Fre (insF ls x) (ordF ns (insF ls x)) n.f0 := by
    rw [rordF_eq ns _ (nok_nz hn)]
    exact rordF_end (nok_nz hn)
  obtain ⟨nx, hnx, ex⟩ := (ends_ids hn hx).1
  -- who is not in the new order has a link from one that is not
  have hpre : ∀ n ∈ ns, n.f0 ∉ ordF ns (insF ls x) → ∃ l ∈ insF ls x, l.f2 = n.f0 ∧ l.f0 ∉ ordF ns (insF ls x) := by
    intro n hn' hno
    refine Classical.byContradiction fun hne => hend n hn' ⟨hno, fun l hl e => ?_⟩
    exact Classical.byContradiction fun h => hne ⟨l, hl, e, h⟩
  have hidx : ∀ l ∈ ls, (ordF ns ls).idxOf l.f0 < (ordF ns ls).idxOf l.f2 := fun l hl => by
    obtain ⟨n, hn', e⟩ := (ends_ids hn (hv.ends l hl)).2
    exact hri.topo l hl (by rw [← e]; exact hall n hn')
  have hx0 : x.f0 ∉ ordF ns (insF ls x) := by
    intro hin
    have hevery : ∀ (k : Nat) (n : Nd), n ∈ ns → (ordF ns ls).idxOf n.f0 ≤ k → n.f0 ∈ ordF ns (insF ls x) := by
      intro k
      induction k with
      | zero =>
        intro n hn' hk
        refine Classical.byContradiction fun hno => ?_
        obtain ⟨l, hl, e, h0⟩ := hpre n hn' hno
        rcases (mem_insF ls x l).1 hl with hl | rfl
        · have := hidx l hl
          rw [e] at this
          omega
        · exact h0 hin
      | succ k ih =>
        intro n hn' hk
        refine Classical.byContradiction fun hno => ?_
        obtain ⟨l, hl, e, h0⟩ := hpre n hn' hno
        rcases (mem_insF ls x l).1 hl with hl | rfl
        · have h1 := hidx l hl
          rw [e] at h1
          obtain ⟨m, hm, em⟩ := (ends_ids hn (hv.ends l hl)).1
          exact h0 (by rw [← em]; exact ih m hm (by rw [em]; omega))
        · exact h0 hin
    have hfull : (ordF ns (insF ls x)).length = ns.length := by
      have h2 : ∀ n ∈ ns, n.f0 ∈ ordF ns (insF ls x) := fun n hn' => hevery _ n hn' (Nat.le_refl _)
      rw [rordF_eq ns _ (nok_nz hn)] at h2 ⊢
      exact (full_iff (nok_asc ns none hn).1 _).2 h2
    omega
  have hclaim : ∀ (k : Nat) (n : Nd), n ∈ ns → (ordF ns ls).idxOf n.f0 ≤ k → n.f0 ∉ ordF ns (insF ls x) → n.f0 = x.f2 ∨ n.f0 ∈ rch x.f2 ls (ordF ns ls) [] := by
    intro k
    induction k with
    | zero =>
      intro n hn' hk hno
      obtain ⟨l, hl, e, h0⟩ := hpre n hn' hno
      rcases (mem_insF ls x l).1 hl with hl | rfl
      · have := hidx l hl
        rw [e] at this
        omega
      · exact .inl e.symm
    | succ k ih =>
      intro n hn' hk hno
      obtain ⟨l, hl, e, h0⟩ := hpre n hn' hno
      rcases (mem_insF ls x l).1 hl with hl | rfl
      · have h1 := hidx l hl
        rw [e] at h1
        obtain ⟨m, hm, em⟩ := (ends_ids hn (hv.ends l hl)).1
        have h2 := ih m hm (by rw [em]; omega) (by rw [em]; exact h0)
        rw [em] at h2
        rw [← e]
        exact rch_closed hri.topo hri.nodup hl (by rw [← em]; exact hall m hm) h2
      · exact .inl e.symm
  have := hclaim _ nx hnx (Nat.le_refl _) (by rw [ex]; exact hx0)
  rw [ex] at this
  exact this
theorem no_back {ns : List Nd} {ls : List Lk} (hn : nokR none ns = true) {x : Lk} (hf : (ordF ns (insF ls x)).length = ns.length) (he : ∀ l ∈ insF ls x, endsB ns l = true) (o : List Int) : ¬ (x.f0 = x.f2 ∨ x.f0 ∈ rch x.f2 ls o []) := by
  have hri := ord_ri (ls := insF ls x) hn
  have hall := ord_all hn hf
  have hidx : ∀ l ∈ insF ls x, (ordF ns (insF ls x)).idxOf l.f0 < (ordF ns (insF ls x)).idxOf l.f2 := fun l hl => by
    obtain ⟨n, hn', e⟩ := (ends_ids hn (he l hl)).2
    exact hri.topo l hl (by rw [← e]; exact hall n hn')
  have hx := hidx x ((mem_insF ls x x).2 (.inr rfl))
  rintro (h | h)
  · rw [h] at hx; omega
  · have := rch_ind x.f2 ls (fun z => (ordF ns (insF ls x)).idxOf x.f2 < (ordF ns (insF ls x)).idxOf z) (fun l hl _ h => by
      have h1 := hidx l ((mem_insF ls x l).2 (.inl hl))
      rcases h with h | h
      · rw [h] at h1; exact h1
      · omega) o [] (fun z h => (by cases h)) _ h
    omega
end Go.Proofs.YtcbpghpfdjfddaaG
-- Declarations of the text that this claim uses (slim.py, a program of this session).
namespace Go.Proofs.YtcbpghpfdjfddaaE
open Go Go.RowKit
set_option linter.unusedVariables false
inductive D where
  | v (x : Value)
  | l (sz : Nat) (xs : List (List D))
inductive AV where
  | sc (x : Value)
  | ls (sz : Nat) (xs : List (List D))
  | nl
  | ow (t : Nat)
  | pt (t off : Nat)
  | el (row : List D) (off : Nat)
  | rp (t sz i off : Nat)
  | mp (t : Nat)
  | fn (f : FuncId) (cap : List AV)
  | ag (cs : List AV)
  | tp (vs : List AV)
  | ud
inductive HC where
  | bx (cs : List AV)
  | row (e : TypeId) (sz : Nat) (xs : List (List D))
  | mi (n : Nat) (f : Int → Option Int)
  | dead
def AV.leaf : AV → Bool
  | .ag _ | .tp _ | .ud => false
  | _ => true
def AV.cells : AV → List AV
  | .ag cs => cs
  | x => [x]
def D.av : D → AV
  | .v x => .sc x
  | .l sz xs => .ls sz xs
def AV.dat : AV → Option D
  | .sc x => some (.v x)
  | .ls sz xs => some (.l sz xs)
  | _ => none
inductive DR (I : Addr → Prop) (w : World) : D → Value → Prop where
  | v (x : Value) (h : x.oneCell' = true) : DR I w (.v x) x
  | l (sz : Nat) (xs : List (List D)) (a : Addr) (A : Option Addr) (c : Nat) (val : Nat → Nat → Value) (hc : xs.length ≤ c) (hs : ∀ r ∈ xs, r.length = sz) (hA : xs ≠ [] → A = some a) (hsp : a.spot = none)
      (h : ∀ (i j : Nat) (r : List D) (x : D), xs[i]? = some r → r[j]? = some x → I (a.add (i * sz + j)) ∧ w.cell? (a.add (i * sz + j)) = some (val i j))
      (hd : ∀ (i j : Nat) (r : List D) (x : D), xs[i]? = some r → r[j]? = some x → DR I w x (val i j)) : DR I w (.l sz xs) (.slice A xs.length c)
theorem DR.one {I : Addr → Prop} {w : World} {d : D} {v : Value} (h : DR I w d v) : v.oneCell' = true := by
  cases h with
  | v x h => exact h
  | l => rfl
theorem DR.mono {I I' : Addr → Prop} {w w' : World} (hI : ∀ a, I a → I' a ∧ w'.cell? a = w.cell? a) {d : D} {v : Value} (h : DR I w d v) : DR I' w' d v := by
  induction h with
  | v x h => exact .v x h
  | l sz xs a A c val hc hs hA hsp h hd ih =>
    refine .l sz xs a A c val hc hs hA hsp (fun i j r x h1 h2 => ?_) (fun i j r x h1 h2 => ih i j r x h1 h2)
    obtain ⟨h3, h4⟩ := h i j r x h1 h2
    obtain ⟨h5, h6⟩ := hI _ h3
    exact ⟨h5, h6.trans h4⟩
abbrev Gh := Nat → Option Value
inductive VR (G : Gh) (I : Addr → Prop) (w : World) : AV → Value → Prop where
  | sc (x : Value) (h : x.oneCell' = true) : VR G I w (.sc x) x
  | ls (sz : Nat) (xs : List (List D)) (v : Value) (h : DR I w (.l sz xs) v) : VR G I w (.ls sz xs) v
  | nl : VR G I w .nl (.slice none 0 0)
  | ow (t : Nat) (A : Option Addr) (n c : Nat) (h : G t = some (.slice A n c)) : VR G I w (.ow t) (.slice A n c)
  | pt (t off b : Nat) (h : G t = some (.pointer (some ⟨b, 0, none⟩))) : VR G I w (.pt t off) (.pointer (some ⟨b, off, none⟩))
  | el (row : List D) (off : Nat) (a : Addr) (val : Nat → Value) (hsp : a.spot = none) (h : ∀ (j : Nat) (x : D), row[j]? = some x → I (a.add j) ∧ w.cell? (a.add j) = some (val j)) (hd : ∀ (j : Nat) (x : D), row[j]? = some x → DR I w x (val j)) :
      VR G I w (.el row off) (.pointer (some (a.add off)))
  | rp (t sz i off b n c : Nat) (h : G t = some (.slice (some ⟨b, 0, none⟩) n c)) : VR G I w (.rp t sz i off) (.pointer (some ⟨b, i * sz + off, none⟩))
  | mp (t b : Nat) (h : G t = some (.map (some b))) : VR G I w (.mp t) (.map (some b))
  | fn (f : FuncId) (cap : List AV) (vs : Array Value) (hn : vs.size = cap.length) (h : ∀ (i : Nat) (x : AV), cap[i]? = some x → VR G I w x (vs.getD i undef)) : VR G I w (.fn f cap) (.func (.func f) #[] vs)
  | ag (cs : List AV) (vs : Array Value) (hn : vs.size = cs.length) (hl : ∀ x ∈ cs, x.leaf = true) (h : ∀ (i : Nat) (x : AV), cs[i]? = some x → VR G I w x (vs.getD i undef)) : VR G I w (.ag cs) (.agg vs)
  | tp (cs : List AV) (vs : Array Value) (hn : vs.size = cs.length) (h : ∀ (i : Nat) (x : AV), cs[i]? = some x → VR G I w x (vs.getD i undef)) : VR G I w (.tp cs) (.tuple vs)
  | ud (v : Value) : VR G I w .ud v
theorem VR.one {G : Gh} {I : Addr → Prop} {w : World} {x : AV} {v : Value} (h : VR G I w x v) (hl : x.leaf = true) : v.oneCell' = true := by
  cases h with
  | sc x h => exact h
  | ls sz xs v h => exact h.one
  | ag | tp | ud => cases hl
  | _ => rfl
def Mono (G : Gh) (I : Addr → Prop) (w : World) (G' : Gh) (I' : Addr → Prop) (w' : World) : Prop := (∀ t v, G t = some v → G' t = some v) ∧ ∀ a, I a → I' a ∧ w'.cell? a = w.cell? a
theorem Mono.refl (G : Gh) (I : Addr → Prop) (w : World) : Mono G I w G I w := ⟨fun _ _ h => h, fun _ h => ⟨h, rfl⟩⟩
theorem Mono.trans {G G' G'' : Gh} {I I' I'' : Addr → Prop} {w w' w'' : World} (h : Mono G I w G' I' w') (k : Mono G' I' w' G'' I'' w'') : Mono G I w G'' I'' w'' :=
  ⟨fun t v e => k.1 t v (h.1 t v e), fun a ha => ⟨(k.2 a (h.2 a ha).1).1, (k.2 a (h.2 a ha).1).2.trans (h.2 a ha).2⟩⟩
theorem VR.mono {G G' : Gh} {I I' : Addr → Prop} {w w' : World} (hm : Mono G I w G' I' w') {x : AV} {v : Value} (h : VR G I w x v) : VR G' I' w' x v := by
  induction h with
  | sc x h => exact .sc x h
  | ls sz xs v h => exact .ls sz xs v (h.mono hm.2)
  | nl => exact .nl
  | ow t A n c h => exact .ow t A n c (hm.1 _ _ h)
  | pt t off b h => exact .pt t off b (hm.1 _ _ h)
  | el row off a val hsp h hd =>
    refine .el row off a val hsp (fun j x hj => ?_) (fun j x hj => (hd j x hj).mono hm.2)
    obtain ⟨h3, h4⟩ := h j x hj
    obtain ⟨h5, h6⟩ := hm.2 _ h3
    exact ⟨h5, h6.trans h4⟩
  | rp t sz i off b n c h => exact .rp t sz i off b n c (hm.1 _ _ h)
  | mp t b h => exact .mp t b (hm.1 _ _ h)
  | fn f cap vs hn h ih => exact .fn f cap vs hn ih
  | ag cs vs hn hl h ih => exact .ag cs vs hn hl ih
  | tp cs vs hn h ih => exact .tp cs vs hn ih
  | ud v => exact .ud v
theorem DR.av {G : Gh} {I : Addr → Prop} {w : World} {d : D} {v : Value} (h : DR I w d v) : VR G I w d.av v := by
  cases h with
  | v x h => exact .sc _ h
  | l sz xs a A c val hc hs hA hsp h hd => exact .ls sz xs _ (.l sz xs a A c val hc hs hA hsp h hd)
theorem D.av_leaf (d : D) : d.av.leaf = true := by cases d <;> rfl
theorem VR.dat {G : Gh} {I : Addr → Prop} {w : World} {x : AV} {d : D} {v : Value} (h : VR G I w x v) (hd : x.dat = some d) : DR I w d v := by
  cases h with
  | sc x h => injection hd with hd; subst hd; exact .v _ h
  | ls sz xs v h => injection hd with hd; subst hd; exact h
  | _ => cases hd
def blkV : Option Value → Option Nat
  | some (.pointer (some a)) => some a.block
  | some (.slice (some a) _ _) => some a.block
  | some (.map (some b)) => some b
  | _ => none
def blk : HC → Option Value → Option Nat
  | .dead, _ => none
  | _, g => blkV g
def CR (P : Program) (G : Gh) (I : Addr → Prop) (w : World) : HC → Option Value → Prop
  | .bx cs, g => ∃ b vs T, g = some (.pointer (some ⟨b, 0, none⟩)) ∧ w.heap[b]? = some (.cells vs T (0, 0)) ∧ vs.size = cs.length ∧ ∀ (i : Nat) (x : AV), cs[i]? = some x → x.leaf = true ∧ VR G I w x (vs.getD i undef)
  | .row e sz xs, g => 0 < sz ∧ (∀ r ∈ xs, r.length = sz) ∧ ∃ v vs, g = some v ∧ w.ownsRow 0 e sz v xs.length vs ∧
      ∀ (i j : Nat) (r : List D) (x : D), xs[i]? = some r → r[j]? = some x → ∃ u, vs[i * sz + j]? = some u ∧ DR I w x u
  | .mi n f, g => ∃ b, g = some (.map (some b)) ∧ Go.Proofs.YtcbpghpfdjfddaaMp.OwnM P 3 w b n (fun x => (f x).map (Value.int .i64))
  | .dead, _ => True
theorem CR.mono {P : Program} {G G' : Gh} {I I' : Addr → Prop} {w w' : World} (hm : Mono G I w G' I' w') {c : HC} {g : Option Value} (hb : ∀ b, blk c g = some b → w'.heap[b]? = w.heap[b]?) (h : CR P G I w c g) : CR P G' I' w' c g := by
  cases c with
  | bx cs =>
    obtain ⟨b, vs, T, hg, hh, hn, hx⟩ := h
    exact ⟨b, vs, T, hg, (hb b (by rw [hg]; rfl)).trans hh, hn, fun i x hi => ⟨(hx i x hi).1, (hx i x hi).2.mono hm⟩⟩
  | row e sz xs =>
    obtain ⟨h0, hr, v, vs, hg, ho, hx⟩ := h
    refine ⟨h0, hr, v, vs, hg, ?_, fun i j r x hi hj => ?_⟩
    · obtain ⟨h1, h2⟩ := ho
      refine ⟨h1, ?_⟩
      rcases h2 with h2 | ⟨g', cap, cur, hv, hbg, hh, hr⟩
      · exact .inl h2
      · exact .inr ⟨g', cap, cur, hv, hbg, (hb g' (by rw [hg, hv]; rfl)).trans hh, hr⟩
    · obtain ⟨u, hu, hd⟩ := hx i j r x hi hj
      exact ⟨u, hu, hd.mono hm.2⟩
  | mi n f =>
    obtain ⟨b, hg, ho⟩ := h
    exact ⟨b, hg, ho.move (hb b (by rw [hg]; rfl))⟩
  | dead => trivial
structure HRel (P : Program) (G : Gh) (I : Addr → Prop) (w : World) (H : Nat → HC) (F : Nat → Prop) : Prop where
  cr : ∀ t, CR P G I w (H t) (G t)
  sep : ∀ t t' b, t ≠ t' → blk (H t) (G t) = some b → blk (H t') (G t') ≠ some b
  imm : ∀ a, I a → a.spot = none ∧ (w.cell? a).isSome = true ∧ ∀ t, blk (H t) (G t) ≠ some a.block
  dom : ∀ t, F t → H t = .dead ∧ G t = none
theorem CR.lt {P : Program} {G : Gh} {I : Addr → Prop} {w : World} {c : HC} {g : Option Value} (h : CR P G I w c g) {b : Nat} (hb : blk c g = some b) : b < w.heap.size := by
  cases c with
  | bx cs =>
    obtain ⟨b', vs, T, hg, hh, _⟩ := h
    rw [hg] at hb
    injection hb with hb
    subst hb
    exact (Array.getElem?_eq_some_iff.1 hh).1
  | row e sz xs =>
    obtain ⟨_, _, v, vs, hg, ⟨_, ⟨hv, _⟩ | ⟨g', cap, cur, hv, _, hh, _⟩⟩, _⟩ := h
    · rw [hg, hv] at hb; cases hb
    · rw [hg, hv] at hb
      injection hb with hb
      subst hb
      exact (Array.getElem?_eq_some_iff.1 hh).1
  | mi n f =>
    obtain ⟨b', hg, ho⟩ := h
    rw [hg] at hb
    injection hb with hb
    subst hb
    exact ho.lt
  | dead => cases hb
structure Cx where
  M : Nat → Prop
  w0 : World
  G0 : Gh
  I0 : Addr → Prop
structure CRel (cx : Cx) (G : Gh) (I : Addr → Prop) (w : World) (H : Nat → HC) : Prop where
  os : w.os = cx.w0.os
  tape : w.tape = cx.w0.tape
  output : w.output = cx.w0.output
  size : cx.w0.heap.size ≤ w.heap.size
  frame : ∀ k, ¬ cx.M k → w.heap[k]? = cx.w0.heap[k]?
  up : ∀ k, cx.w0.heap.size ≤ k → cx.M k
  live : ∀ t b, blk (H t) (G t) = some b → cx.M b
  mono : Mono cx.G0 cx.I0 cx.w0 G I w
  inew : ∀ a, I a → cx.I0 a ∨ cx.M a.block
structure GS (P : Program) (cx : Cx) (G : Gh) (I : Addr → Prop) (w : World) (H : Nat → HC) (F : Nat → Prop) : Prop where
  h : HRel P G I w H F
  c : CRel cx G I w H
structure Only (B : Nat → Prop) (w w' : World) : Prop where
  os : w'.os = w.os
  tape : w'.tape = w.tape
  output : w'.output = w.output
  size : w.heap.size ≤ w'.heap.size
  block : ∀ k, ¬ B k → w'.heap[k]? = w.heap[k]?
theorem Only.cell {B : Nat → Prop} {w w' : World} (h : Only B w w') {a : Addr} (ha : ¬ B a.block) : w'.cell? a = w.cell? a := World.cell?_of_block (w := w) (h.block a.block ha)
theorem CR.some_or {P : Program} {G : Gh} {I : Addr → Prop} {w : World} {c : HC} (h : CR P G I w c none) : c = .dead := by
  cases c with
  | dead => rfl
  | bx cs => obtain ⟨_, _, _, hc, _⟩ := h; cases hc
  | row e sz xs => obtain ⟨_, _, _, _, hc, _⟩ := h; cases hc
  | mi n f => obtain ⟨_, hc, _⟩ := h; cases hc
theorem GS.upd {P : Program} {cx : Cx} {G G' : Gh} {I : Addr → Prop} {w w' : World} {H H' : Nat → HC} {F F' : Nat → Prop} (h : GS P cx G I w H F) (B : Nat → Prop) (t1 : Nat) (hw : Only B w w') (hM : ∀ b, B b → cx.M b) (hI : ∀ a, I a → ¬ B a.block)
    (hG : ∀ t v, G t = some v → G' t = some v) (h1 : CR P G' I w' (H' t1) (G' t1)) (hb1 : ∀ b, blk (H' t1) (G' t1) = some b → B b)
    (ho : ∀ t, t ≠ t1 → H' t = .dead ∨ (H' t = H t ∧ ∀ b, blk (H t) (G t) = some b → ¬ B b)) (hd : ∀ t, F' t → H' t = .dead ∧ G' t = none) :
    GS P cx G' I w' H' F' ∧ Mono G I w G' I w' := by
  have hm : Mono G I w G' I w' := ⟨hG, fun a ha => ⟨ha, hw.cell (hI a ha)⟩⟩
  have hgs : ∀ t, G' t = G t ∨ H t = .dead := by
    intro t
    cases hg : G t with
    | some v => exact .inl (hG t v hg)
    | none => exact .inr (CR.some_or (hg ▸ h.h.cr t))
  have hbk : ∀ t, t ≠ t1 → ∀ b', blk (H' t) (G' t) = some b' → blk (H t) (G t) = some b' ∧ ¬ B b' := by
    intro t ht b' hb'
    rcases ho t ht with e | ⟨e, hne⟩
    · rw [e] at hb'; cases hb'
    · rw [e] at hb'
      rcases hgs t with hg | hH
      · rw [hg] at hb'
        exact ⟨hb', hne b' hb'⟩
      · rw [hH] at hb'; cases hb'
  refine ⟨⟨⟨fun t => ?_, fun t t' b' hne hb' => ?_, fun a ha => ?_, hd⟩, ⟨hw.os.trans h.c.os, hw.tape.trans h.c.tape, hw.output.trans h.c.output, Nat.le_trans h.c.size hw.size, fun k hk => ?_, h.c.up, fun t b' hb' => ?_, h.c.mono.trans hm, h.c.inew⟩⟩, hm⟩
  · by_cases ht : t = t1
    · subst ht; exact h1
    · rcases ho t ht with e | ⟨e, hne⟩
      · rw [e]; trivial
      · rw [e]
        rcases hgs t with hg | hH
        · rw [hg]
          exact (h.h.cr t).mono hm (fun b' hb' => hw.block b' (hne b' hb'))
        · rw [hH]; trivial
  · by_cases ht : t = t1
    · subst ht
      intro hb2
      exact (hbk t' (fun e => hne e.symm) _ hb2).2 (hb1 _ hb')
    · obtain ⟨g1, g2⟩ := hbk t ht b' hb'
      by_cases ht' : t' = t1
      · subst ht'
        intro hb2
        exact g2 (hb1 _ hb2)
      · intro hb2
        exact h.h.sep t t' b' hne g1 (hbk t' ht' _ hb2).1
  · obtain ⟨a1, a2, a3⟩ := h.h.imm a ha
    refine ⟨a1, by rw [(hm.2 a ha).2]; exact a2, fun t hb' => ?_⟩
    by_cases ht : t = t1
    · subst ht
      exact hI a ha (hb1 _ hb')
    · exact a3 t (hbk t ht _ hb').1
  · have hkb : ¬ B k := fun e => hk (hM k e)
    exact (hw.block k hkb).trans (h.c.frame k hk)
  · by_cases ht : t = t1
    · subst ht
      exact hM _ (hb1 _ hb')
    · exact h.c.live t b' (hbk t ht _ hb').1
theorem GS.weak {P : Program} {cx : Cx} {G : Gh} {I : Addr → Prop} {w : World} {H : Nat → HC} {F F' : Nat → Prop} (h : GS P cx G I w H F) (hF : ∀ t, F' t → F t) : GS P cx G I w H F' :=
  ⟨⟨h.h.cr, h.h.sep, h.h.imm, fun t ht => h.h.dom t (hF t ht)⟩, h.c⟩
def Fr (F : Nat → Prop) (N k : Nat) : Nat → Prop := fun t => F t ∧ ¬ (N ≤ t ∧ t < N + k)
end Go.Proofs.YtcbpghpfdjfddaaE
-- Declarations of the text that this claim uses (slim.py, a program of this session).
namespace Go.Proofs.YtcbpghpfdjfddaaE
open Go Go.RowKit
set_option linter.unusedVariables false
set_option linter.unusedSimpArgs false
inductive TK where
  | leaf
  | strct (fl : List (TypeId × Nat))
  | slc (e : TypeId)
  | int (k : IntKind)
  | str
  | bool
  | arr
  | map (k e : TypeId)
def kd : TypeDesc → TK
  | .struct fs => .strct (fs.toList.map fun f => (f.type, f.offset))
  | .slice e => .slc e
  | .int k => .int k
  | .string => .str
  | .bool => .bool
  | .array _ _ => .arr
  | .map k e => .map k e
  | _ => .leaf
structure TI where
  k : TK
  zv : Value
  size : Nat
  bytes : Nat
  eqs : Bool := false
def TK.agg : TK → Bool
  | .strct _ | .arr => true
  | _ => false
def TOk (P : Program) (t : TypeId) (i : TI) : Prop := (P.underlying t).map kd = some i.k ∧ (P.info? t).map (fun j => (j.zero, j.size, j.bytes)) = some (some i.zv, i.size, i.bytes) ∧
  (!i.eqs || (!P.stoodInHeld t && (!P.eqGuardType P.depth t && (match P.underlying t with | some (.struct fs) => fs.toList.all fun f => f.name != "_" | _ => false)))) = true
abbrev TEnv := TypeId → Option TI
def EOk (P : Program) (Γ : TEnv) : Prop := ∀ t i, Γ t = some i → TOk P t i
theorem TOk.und {P : Program} {t : TypeId} {i : TI} (h : TOk P t i) : ∃ d, P.underlying t = some d ∧ kd d = i.k := Option.map_eq_some_iff.1 h.1
theorem TOk.inf {P : Program} {t : TypeId} {i : TI} (h : TOk P t i) : ∃ j, P.info? t = some j ∧ j.zero = some i.zv ∧ j.size = i.size ∧ j.bytes = i.bytes := by
  obtain ⟨j, hj, e⟩ := Option.map_eq_some_iff.1 h.2.1
  injection e with e1 e
  injection e with e2 e3
  exact ⟨j, hj, e1, e2, e3⟩
theorem kd_slc {d : TypeDesc} {e : TypeId} (h : kd d = .slc e) : d = .slice e := by
  cases d <;> simp [kd] at h
  rw [h]
theorem kd_int {d : TypeDesc} {k : IntKind} (h : kd d = .int k) : d = .int k := by
  cases d <;> simp [kd] at h
  rw [h]
theorem kd_str {d : TypeDesc} (h : kd d = .str) : d = .string := by
  cases d <;> simp [kd] at h
  rfl
theorem kd_bool {d : TypeDesc} (h : kd d = .bool) : d = .bool := by
  cases d <;> simp [kd] at h
  rfl
theorem kd_strct {d : TypeDesc} {fl : List (TypeId × Nat)} (h : kd d = .strct fl) : ∃ fs, d = .struct fs ∧ fs.toList.map (fun f => (f.type, f.offset)) = fl := by
  cases d <;> simp [kd] at h
  rename_i fs
  exact ⟨fs, rfl, h⟩
section
variable {P : Program} {w : World} {t : TypeId} {i : TI}
theorem TOk.agg_run (h : TOk P t i) : (isAgg t).run P w = .ok i.k.agg w := by
  obtain ⟨d, hd, hk⟩ := h.und
  rw [← hk]
  cases d <;> simp [isAgg, run_underlying hd, kd, TK.agg]
theorem TOk.size_run (h : TOk P t i) : (sizeOf t).run P w = .ok i.size w := by
  obtain ⟨j, hj, _, hs, _⟩ := h.inf
  simp [sizeOf, typeInfo, hj, hs]
theorem TOk.zero_run (h : TOk P t i) : (zeroValue t).run P w = .ok i.zv w := by
  obtain ⟨j, hj, hz, _⟩ := h.inf
  simp [zeroValue, typeInfo, hj, hz]
end
inductive Ch where
  | no
  | b (v : Bool)
  | i (n : Int)
  | row (r : List D)
  | call (ags : List AV) (ids : List Nat) (Hc : List HC) (r : AV) (Hr : List HC)
structure Rs where
  r : AV
  up : List (Nat × HC) := []
  k : Nat := 0
  rd : List Nat := []
  side : Prop := True
def lk {α : Type} : List (Nat × α) → Nat → α → α
  | [], _, d => d
  | (k, v) :: r, s, d => if k = s then v else lk r s d
def upds (h : Nat → HC) (up : List (Nat × HC)) : Nat → HC := fun t => lk up t (h t)
def cst : Value → AV
  | .slice none 0 0 => .nl
  | .bool b => .sc (.bool b)
  | .int k n => .sc (.int k n)
  | .string s => .sc (.string s)
  | .pointer none => .sc (.pointer none)
  | .map none => .sc (.map none)
  | .nilFunc => .sc .nilFunc
  | .nilIface => .sc .nilIface
  | _ => .ud
theorem cst_rel (G : Gh) (I : Addr → Prop) (w : World) (v : Value) : VR G I w (cst v) v := by
  unfold cst
  split <;> first | exact .nl | exact .sc _ rfl | exact .ud _
def zc (v : Value) : List AV := v.cells.toList.map cst
def ld (i : TI) (cs : List AV) (off : Nat) : Option AV :=
  match i.k.agg with
  | true => if off + i.size ≤ cs.length then some (.ag ((cs.drop off).take i.size)) else none
  | false => cs[off]?
def MemAt (G : Gh) (I : Addr → Prop) (w : World) (a : Addr) (cs : List AV) : Prop := ∀ (j : Nat) (x : AV), cs[j]? = some x → x.leaf = true ∧ ∃ v, w.cell? (a.add j) = some v ∧ VR G I w x v
theorem add_add (a : Addr) (i j : Nat) (h : a.spot = none) : (a.add i).add j = a.add (i + j) := by
  obtain ⟨b, o, s⟩ := a
  cases h
  simp only [Addr.add]
  repeat' split
  all_goals simp_all
  all_goals omega
theorem add_zero' (a : Addr) (h : a.spot = none) : a.add 0 = a := by
  obtain ⟨b, o, s⟩ := a
  cases h
  simp [Addr.add]
theorem add_lit (b o j : Nat) : (⟨b, o, none⟩ : Addr).add j = ⟨b, o + j, none⟩ := by simp [Addr.add]
theorem ld_sound {P : Program} {G : Gh} {I : Addr → Prop} {w : World} {t : TypeId} {i : TI} (ht : TOk P t i) {a : Addr} (hsp : a.spot = none) {cs : List AV} (hm : MemAt G I w a cs) {off : Nat} {r : AV} (h : ld i cs off = some r) :
    ∃ v, (loadVar t (a.add off)).run P w = .ok v w ∧ VR G I w r v := by
  unfold ld at h
  cases hk : i.k.agg with
  | true =>
    rw [hk] at h
    simp only [] at h
    split at h
    · rename_i hle
      injection h with h
      subst h
      have hex : ∀ j, j < i.size → ∃ v, w.cell? ((a.add off).add j) = some v ∧ ∃ x, cs[off + j]? = some x ∧ x.leaf = true ∧ VR G I w x v := by
        intro j hj
        have hlt : off + j < cs.length := by omega
        obtain ⟨h1, v, h2, h3⟩ := hm (off + j) cs[off + j] (List.getElem?_eq_getElem hlt)
        exact ⟨v, by rw [add_add _ _ _ hsp]; exact h2, _, List.getElem?_eq_getElem hlt, h1, h3⟩
      let f : Nat → Value := fun j => (w.cell? ((a.add off).add j)).getD undef
      have hf : ∀ j, j < i.size → w.cell? ((a.add off).add j) = some (f j) := by
        intro j hj
        obtain ⟨v, hv, _⟩ := hex j hj
        show _ = some ((w.cell? ((a.add off).add j)).getD undef)
        rw [hv]
        rfl
      have hl := run_loadCells (P := P) (w := w) (a.add off) i.size f hf
      refine ⟨.agg ((List.range i.size).map f).toArray, by simp [loadVar, ht.agg_run, hk, ht.size_run, hl], .ag _ _ (by simp; omega) ?_ ?_⟩
      · intro x hx
        have hx := List.mem_of_mem_drop (List.mem_of_mem_take hx)
        obtain ⟨j, hj, rfl⟩ := List.getElem_of_mem hx
        exact (hm j _ (List.getElem?_eq_getElem hj)).1
      · intro j x hx
        rw [List.getElem?_take] at hx
        split at hx
        · rename_i hj
          rw [List.getElem?_drop] at hx
          obtain ⟨v, hv, x', hx', _, hr⟩ := hex j hj
          have : x' = x := Option.some.inj (hx'.symm.trans hx)
          subst this
          have he : (((List.range i.size).map f).toArray).getD j undef = v := by
            have h1 := (hf j hj).symm.trans hv
            injection h1 with h1
            simp [hj, h1]
          rw [he]
          exact hr
        · cases hx
    · cases h
  | false =>
    rw [hk] at h
    obtain ⟨_, v, hv, hr⟩ := hm off r h
    exact ⟨v, by simp [loadVar, ht.agg_run, hk, load, Sem.run, hv], hr⟩
theorem MemAt.box {P : Program} {G : Gh} {I : Addr → Prop} {w : World} {cs : List AV} {b : Nat} (h : CR P G I w (.bx cs) (some (.pointer (some ⟨b, 0, none⟩)))) : MemAt G I w ⟨b, 0, none⟩ cs := by
  obtain ⟨b', vs, T, hg, hh, hn, hx⟩ := h
  injection hg with hg
  injection hg with hg
  injection hg with hg
  injection hg with hg
  subst hg
  intro j x hj
  have hlt : j < vs.size := by rw [hn]; exact (List.getElem?_eq_some_iff.1 hj).1
  refine ⟨(hx j x hj).1, vs.getD j undef, ?_, (hx j x hj).2⟩
  rw [add_lit]
  unfold World.cell?
  simp only [hh]
  simp [hlt]
theorem MemAt.el {G : Gh} {I : Addr → Prop} {w : World} {row : List D} {a : Addr} {val : Nat → Value} (h : ∀ (j : Nat) (x : D), row[j]? = some x → I (a.add j) ∧ w.cell? (a.add j) = some (val j)) (hd : ∀ (j : Nat) (x : D), row[j]? = some x → DR I w x (val j)) : MemAt G I w a (row.map D.av) := by
  intro j x hj
  rw [List.getElem?_map] at hj
  obtain ⟨d, hd', rfl⟩ := Option.map_eq_some_iff.1 hj
  exact ⟨d.av_leaf, val j, (h j d hd').2, (hd j d hd').av⟩
def Does (P : Program) (s : Sem Next) (w : World) (Post : Value → World → Prop) : Prop :=
  match s.run P w with
  | .ok (.value v) w' => Post v w'
  | .ok .skip w' => Post undef w'
  | .ok (.enter f args) w' => Calls P f args w' fun e w'' => ∃ v, e = .returned v ∧ Post v w''
  | _ => False
theorem Does.wp {P : Program} {o : Oper} {a : Act} {w : World} {Post : Value → World → Prop} (h : Does P (execOp a.eval o) w Post) {K : Act → World → Prop} {Q : Exit → Act → World → Prop} (hK : ∀ v w', Post v w' → K (a.put o.dst v) w') : o.wp P a w K Q := by
  unfold Does at h
  unfold Oper.wp
  generalize (execOp a.eval o).run P w = r at h
  cases r with
  | ok n w' =>
    cases n <;> simp only [] at h <;> first | exact h.elim | skip
    · exact hK _ _ h
    · exact hK _ _ h
    · exact Calls.mono h (fun e w'' ⟨v, he, hp⟩ => by subst he; exact hK _ _ hp)
  | halt => exact h.elim
theorem does_v {P : Program} {s : Sem Value} {w w' : World} {v : Value} {Post : Value → World → Prop} (h : s.run P w = .ok v w') (hp : Post v w') : Does P (do let a ← s; pure (Next.value a)) w Post := by
  unfold Does
  simp [h, hp]
theorem does_u {P : Program} {s : Sem Unit} {w w' : World} {Post : Value → World → Prop} (h : s.run P w = .ok () w') (hp : Post undef w') : Does P (do s; pure Next.skip) w Post := by
  unfold Does
  simp [h, hp]
def Aft (P : Program) (cx : Cx) (G : Gh) (I : Addr → Prop) (w : World) (h : Nat → HC) (F : Nat → Prop) (N : Nat) (R : Rs) (v : Value) (w' : World) : Prop :=
  ∃ G' I', GS P cx G' I' w' (upds h R.up) (Fr F N R.k) ∧ Mono G I w G' I' w' ∧ VR G' I' w' R.r v
theorem upds_nil (h : Nat → HC) : upds h [] = h := rfl
theorem Aft.same {P : Program} {cx : Cx} {G : Gh} {I : Addr → Prop} {w : World} {h : Nat → HC} {F : Nat → Prop} {N : Nat} {R : Rs} {v : Value} (hg : GS P cx G I w h F) (hu : R.up = []) (hk : R.k = 0) (hv : VR G I w R.r v) : Aft P cx G I w h F N R v w :=
  ⟨G, I, by rw [hu, upds_nil]; exact hg.weak (fun t ht => ht.1), Mono.refl _ _ _, hv⟩
def loadA (i : Option TI) (h : Nat → HC) (x : AV) (ch : Ch) : Option Rs :=
  match i, x with
  | some i, .pt id off => (match h id with | .bx cs => (ld i cs off).map fun r => { r := r, rd := [id] } | _ => none)
  | some i, .el row off => (ld i (row.map D.av) off).map fun r => { r := r }
  | some i, .rp id sz j off => (match h id, ch with | .row e sz' xs, .row r => (ld i (r.map D.av) off).map fun v => { r := v, rd := [id], side := sz = sz' ∧ xs[j]? = some r } | _, _ => none)
  | _, _ => none
theorem Mono.addr {a : Addr} {off : Nat} (h : a.spot = none) : (a.add off).spot = none := by
  obtain ⟨b, o, s⟩ := a
  cases h
  simp only [Addr.add]
  split <;> rfl
theorem ownsRow_cell {w : World} {e : TypeId} {sz : Nat} {b n c m : Nat} {vs : List Value} (h : w.ownsRow 0 e sz (.slice (some ⟨b, 0, none⟩) n c) m vs) {j : Nat} {u : Value} (hj : vs[j]? = some u) : w.cell? ⟨b, j, none⟩ = some u := by
  obtain ⟨_, ⟨hv, _⟩ | ⟨g', cap, cur, hv, _, hh, _, _, _, ht⟩⟩ := h
  · cases hv
  · cases hv
    rw [← ht, List.getElem?_take] at hj
    split at hj
    · unfold World.cell?
      simp only [hh]
      simpa using hj
    · cases hj
theorem so_load {P : Program} {Γ : TEnv} (hΓ : EOk P Γ) {cx : Cx} {G : Gh} {I : Addr → Prop} {w : World} {h : Nat → HC} {F : Nat → Prop} {N : Nat} (hg : GS P cx G I w h F) {t : TypeId} {x : AV} {vx : Value} {ch : Ch} {R : Rs} (hx : VR G I w x vx)
    (he : loadA (Γ t) h x ch = some R) (hs : R.side) : Does P (do let a ← Instr.loadAt t vx; pure (Next.value a)) w (Aft P cx G I w h F N R) := by
  cases hi : Γ t with
  | none => rw [hi] at he; cases he
  | some i =>
    rw [hi] at he
    have ht := hΓ t i hi
    cases hx with
    | pt id off b hG =>
      simp only [loadA] at he
      cases hh : h id with
      | bx cs =>
        rw [hh] at he
        obtain ⟨r, hr, rfl⟩ := Option.map_eq_some_iff.1 he
        have hc := hg.h.cr id
        rw [hh, hG] at hc
        obtain ⟨v, hv, hvr⟩ := ld_sound ht rfl (MemAt.box hc) hr
        rw [add_lit, Nat.zero_add] at hv
        exact does_v (by simp [Instr.loadAt, Instr.sureAddr, hv]) (Aft.same hg rfl rfl hvr)
      | _ => rw [hh] at he; cases he
    | el row off a val hsp h1 h2 =>
      simp only [loadA] at he
      obtain ⟨r, hr, rfl⟩ := Option.map_eq_some_iff.1 he
      obtain ⟨v, hv, hvr⟩ := ld_sound ht hsp (MemAt.el h1 h2) hr
      exact does_v (by simp [Instr.loadAt, Instr.sureAddr, hv]) (Aft.same hg rfl rfl hvr)
    | rp id sz j off b n c hG =>
      simp only [loadA] at he
      cases hh : h id with
      | row e sz' xs =>
        rw [hh] at he
        cases ch with
        | row rw_ =>
          obtain ⟨r, hr, rfl⟩ := Option.map_eq_some_iff.1 he
          obtain ⟨rfl, hrow⟩ := hs
          have hc := hg.h.cr id
          rw [hh, hG] at hc
          obtain ⟨_, hlen, v, vs, hgv, ho, hcell⟩ := hc
          injection hgv with hgv
          subst hgv
          have hm : MemAt G I w ⟨b, j * sz, none⟩ (rw_.map D.av) := by
            intro k y hk
            rw [List.getElem?_map] at hk
            obtain ⟨d, hd, rfl⟩ := Option.map_eq_some_iff.1 hk
            obtain ⟨u, hu, hdr⟩ := hcell j k rw_ d hrow hd
            exact ⟨d.av_leaf, u, by rw [add_lit]; exact ownsRow_cell ho hu, hdr.av⟩
          obtain ⟨v, hv, hvr⟩ := ld_sound ht rfl hm hr
          rw [add_lit] at hv
          exact does_v (by simp [Instr.loadAt, Instr.sureAddr, hv]) (Aft.same hg rfl rfl hvr)
        | _ => cases he
      | _ => rw [hh] at he; cases he
    | _ => cases he
theorem cells_one {v : Value} (h : v.oneCell' = true) : v.cells = #[v] := by
  cases v <;> first | rfl | cases h
theorem AV.cells_leaf {x : AV} (h : x.leaf = true) : x.cells = [x] := by
  cases x <;> first | rfl | cases h
theorem leaf_cells {G : Gh} {I : Addr → Prop} {w : World} {x : AV} {v : Value} (h : VR G I w x v) (hl : x.cells.all AV.leaf = true) :
    v.cells.size = x.cells.length ∧ ∀ (i : Nat) (y : AV), x.cells[i]? = some y → y.leaf = true ∧ VR G I w y (v.cells.getD i undef) := by
  by_cases hx : x.leaf = true
  · rw [AV.cells_leaf hx, cells_one (h.one hx)]
    refine ⟨rfl, fun i y hy => ?_⟩
    rcases i with _ | i
    · injection hy with hy; subst hy; exact ⟨hx, h⟩
    · cases hy
  · cases h with
    | ag cs vs hn hl' h => exact ⟨hn, fun i y hy => ⟨hl' y (List.mem_of_getElem? hy), h i y hy⟩⟩
    | tp cs vs hn h => simp [AV.cells, AV.leaf] at hl
    | ud v => simp [AV.cells, AV.leaf] at hl
    | _ => exact (hx rfl).elim
theorem upds_one (h : Nat → HC) (t : Nat) (c : HC) : upds h [(t, c)] t = c := by unfold upds lk; rw [if_pos rfl]
theorem upds_ne (h : Nat → HC) (t : Nat) (c : HC) {s : Nat} (hs : s ≠ t) : upds h [(t, c)] s = h s := by unfold upds lk; rw [if_neg (fun e => hs e.symm)]; rfl
def updG (G : Gh) (t : Nat) (v : Value) : Gh := fun s => if s = t then some v else G s
theorem updG_one (G : Gh) (t : Nat) (v : Value) : updG G t v t = some v := if_pos rfl
theorem updG_ne (G : Gh) (t : Nat) (v : Value) {s : Nat} (hs : s ≠ t) : updG G t v s = G s := if_neg hs
theorem GS.new {P : Program} {cx : Cx} {G : Gh} {I : Addr → Prop} {w w' : World} {h : Nat → HC} {F : Nat → Prop} {N : Nat} (hg : GS P cx G I w h F) (hFN : F N) (B : Nat → Prop) (hw : Only B w w') (hM : ∀ b, B b → cx.M b) (hI : ∀ a, I a → ¬ B a.block) (hfree : ∀ t b, blk (h t) (G t) = some b → ¬ B b)
    (c : HC) (v : Value) (hc : CR P (updG G N v) I w' c (some v)) (hb : ∀ b, blk c (some v) = some b → B b) :
    GS P cx (updG G N v) I w' (upds h [(N, c)]) (Fr F N 1) ∧ Mono G I w (updG G N v) I w' := by
  have hN := hg.h.dom N hFN
  refine hg.upd B N hw hM hI (fun t u ht => ?_) ?_ ?_ (fun t ht => .inr ⟨upds_ne h N c ht, hfree t⟩) (fun t ht => ?_)
  · rw [updG_ne G N v (fun e => by rw [e, hN.2] at ht; cases ht)]; exact ht
  · rw [upds_one, updG_one]; exact hc
  · rw [upds_one, updG_one]; exact hb
  · have hne : t ≠ N := fun e => ht.2 ⟨Nat.le_of_eq e.symm, by omega⟩
    rw [upds_ne h N c hne, updG_ne G N v hne]
    exact hg.h.dom t ht.1
theorem updG_mono {G : Gh} {N : Nat} (hN : G N = none) (v : Value) : ∀ t u, G t = some u → updG G N v t = some u := fun t u ht => by
  rw [updG_ne _ _ _ (fun e => by rw [e, hN] at ht; cases ht)]; exact ht
theorem only_alloc (w : World) (o : Obj) : Only (fun k => w.heap.size ≤ k) w (w.alloc o) := ⟨rfl, rfl, rfl, by simp, fun k hk => by
  show (w.heap.push o)[k]? = _
  rw [Array.getElem?_push, if_neg (by omega)]⟩
theorem GS.fresh {P : Program} {cx : Cx} {G : Gh} {I : Addr → Prop} {w : World} {h : Nat → HC} {F : Nat → Prop} (hg : GS P cx G I w h F) : (∀ b, w.heap.size ≤ b → cx.M b) ∧ (∀ a, I a → ¬ w.heap.size ≤ a.block) ∧ ∀ t b, blk (h t) (G t) = some b → ¬ w.heap.size ≤ b := by
  refine ⟨fun b hb => hg.c.up _ (Nat.le_trans hg.c.size hb), fun a ha e => ?_, fun t b ht e => ?_⟩
  · obtain ⟨_, h2, _⟩ := hg.h.imm a ha
    unfold World.cell? at h2
    rw [Array.getElem?_eq_none e] at h2
    simp at h2
  · exact Nat.lt_irrefl _ (Nat.lt_of_lt_of_le ((hg.h.cr t).lt ht) e)
theorem GS.box {P : Program} {cx : Cx} {G : Gh} {I : Addr → Prop} {w : World} {h : Nat → HC} {F : Nat → Prop} {N : Nat} (hg : GS P cx G I w h F) (hFN : F N) (T : TypeId) (vs : Array Value) (cs : List AV) (hn : vs.size = cs.length) (hx : ∀ (i : Nat) (x : AV), cs[i]? = some x → x.leaf = true ∧ VR G I w x (vs.getD i undef)) :
    ∃ G', GS P cx G' I (w.alloc (.cells vs T (0, 0))) (upds h [(N, .bx cs)]) (Fr F N 1) ∧ Mono G I w G' I (w.alloc (.cells vs T (0, 0))) ∧ VR G' I (w.alloc (.cells vs T (0, 0))) (.pt N 0) (.pointer (some ⟨w.heap.size, 0, none⟩)) := by
  obtain ⟨f1, f2, f3⟩ := hg.fresh
  have hm : Mono G I w (updG G N (.pointer (some ⟨w.heap.size, 0, none⟩))) I (w.alloc (.cells vs T (0, 0))) :=
    ⟨updG_mono (hg.h.dom N hFN).2 _, fun a ha => ⟨ha, (only_alloc w _).cell (f2 a ha)⟩⟩
  have := hg.new hFN _ (only_alloc w (.cells vs T (0, 0))) f1 f2 f3 (.bx cs) (.pointer (some ⟨w.heap.size, 0, none⟩)) ⟨w.heap.size, vs, T, rfl, Array.getElem?_push_size, hn, fun i x hi => ⟨(hx i x hi).1, (hx i x hi).2.mono hm⟩⟩ (fun b hb => by injection hb with hb; exact Nat.le_of_eq hb)
  exact ⟨_, this.1, this.2, .pt N 0 _ (updG_one _ _ _)⟩
def boxA (N : Nat) (x : AV) : Option Rs := if x.cells.all AV.leaf = true then some { r := .pt N 0, up := [(N, .bx x.cells)], k := 1 } else none
theorem so_box {P : Program} {cx : Cx} {G : Gh} {I : Addr → Prop} {w : World} {h : Nat → HC} {F : Nat → Prop} {N : Nat} (hg : GS P cx G I w h F) (hFN : F N) {t : TypeId} {x : AV} {vx : Value} {R : Rs} (hx : VR G I w x vx)
    (he : boxA N x = some R) : Does P (do let a ← Instr.box t vx; pure (Next.value a)) w (Aft P cx G I w h F N R) := by
  unfold boxA at he
  split at he
  · rename_i hl
    injection he with he
    subst he
    obtain ⟨h1, h2⟩ := leaf_cells hx hl
    obtain ⟨G', g1, g2, g3⟩ := hg.box hFN t vx.cells x.cells h1 h2
    exact does_v (v := .pointer (some ⟨w.heap.size, 0, none⟩)) (w' := w.alloc (.cells vx.cells t (0, 0))) (by simp [Instr.box, newVar, newRow]) ⟨G', I, g1, g2, g3⟩
  · cases he
def allocA (i : Option TI) (N : Nat) : Option Rs :=
  match i with
  | some i => if (zc i.zv).all AV.leaf = true then some { r := .pt N 0, up := [(N, .bx (zc i.zv))], k := 1 } else none
  | none => none
theorem zc_cells {G : Gh} {I : Addr → Prop} {w : World} {v : Value} (hl : (zc v).all AV.leaf = true) : v.cells.size = (zc v).length ∧ ∀ (i : Nat) (y : AV), (zc v)[i]? = some y → y.leaf = true ∧ VR G I w y (v.cells.getD i undef) := by
  unfold zc at *
  refine ⟨by simp, fun i y hy => ⟨List.all_eq_true.1 hl y (List.mem_of_getElem? hy), ?_⟩⟩
  rw [List.getElem?_map] at hy
  obtain ⟨u, hu, rfl⟩ := Option.map_eq_some_iff.1 hy
  have : v.cells.getD i undef = u := by
    rw [Array.getElem?_toList] at hu
    simp [hu]
  rw [this]
  exact cst_rel G I w u
theorem so_alloc {P : Program} {Γ : TEnv} (hΓ : EOk P Γ) {cx : Cx} {G : Gh} {I : Addr → Prop} {w : World} {h : Nat → HC} {F : Nat → Prop} {N : Nat} (hg : GS P cx G I w h F) (hFN : F N) {t : TypeId} {R : Rs}
    (he : allocA (Γ t) N = some R) : Does P (do let a ← Instr.alloc t true (.tuple #[]); pure (Next.value a)) w (Aft P cx G I w h F N R) := by
  cases hi : Γ t with
  | none => rw [hi] at he; cases he
  | some i =>
    rw [hi] at he
    have ht := hΓ t i hi
    simp only [allocA] at he
    split at he
    · rename_i hl
      injection he with he
      subst he
      obtain ⟨h1, h2⟩ := zc_cells (G := G) (I := I) (w := w) hl
      obtain ⟨G', g1, g2, g3⟩ := hg.box hFN t i.zv.cells (zc i.zv) h1 h2
      exact does_v (v := .pointer (some ⟨w.heap.size, 0, none⟩)) (w' := w.alloc (.cells i.zv.cells t (0, 0))) (by simp [Instr.alloc, ht.zero_run, newVar, newRow]) ⟨G', I, g1, g2, g3⟩
    · cases he
def storeA (i : Option TI) (h : Nat → HC) (x y : AV) : Option Rs :=
  match i, x with
  | some i, .pt id off => (match h id with
    | .bx cs => if y.cells.all AV.leaf = true ∧ y.cells.length = i.size ∧ off + y.cells.length ≤ cs.length then some { r := .ud, up := [(id, .bx (cs.take off ++ y.cells ++ cs.drop (off + y.cells.length)))], rd := [id] } else none
    | _ => none)
  | _, _ => none
theorem setRow_only (w : World) (b : Nat) (vs : Array Value) : Only (fun k => k = b) w (w.setRow b vs) := ⟨rfl, rfl, rfl, by simp, fun k hk => setRow_other w b k vs hk⟩
theorem so_store {P : Program} {Γ : TEnv} (hΓ : EOk P Γ) {cx : Cx} {G : Gh} {I : Addr → Prop} {w : World} {h : Nat → HC} {F : Nat → Prop} {N : Nat} (hg : GS P cx G I w h F) {t : TypeId} {x y : AV} {vx vy : Value} {R : Rs} (hx : VR G I w x vx) (hy : VR G I w y vy)
    (he : storeA (Γ t) h x y = some R) : Does P (do Instr.storeAt t vx vy; pure Next.skip) w (Aft P cx G I w h F N R) := by
  cases hi : Γ t with
  | none => rw [hi] at he; cases he
  | some i =>
    rw [hi] at he
    have ht := hΓ t i hi
    cases hx with
    | pt id off b hG =>
      simp only [storeA] at he
      cases hh : h id with
      | bx cs =>
        rw [hh] at he
        simp only [] at he
        split at he
        · rename_i hc
          obtain ⟨hl, hsz, hfit⟩ := hc
          injection he with he
          subst he
          obtain ⟨h1, h2⟩ := leaf_cells hy hl
          have hcr := hg.h.cr id
          rw [hh, hG] at hcr
          obtain ⟨b', vs, T, hgb, hheap, hn, hcell⟩ := hcr
          injection hgb with hgb
          injection hgb with hgb
          injection hgb with hgb
          injection hgb with hgb
          subst hgb
          have hone : ∀ v ∈ vy.cells.toList, v.oneCell' = true := by
            intro v hv
            obtain ⟨j, hj, rfl⟩ := List.getElem_of_mem hv
            have hj' : j < y.cells.length := by rw [← h1]; simpa using hj
            obtain ⟨l1, l2⟩ := h2 j _ (List.getElem?_eq_getElem hj')
            have e : vy.cells.getD j undef = vy.cells.toList[j] := by
              have : j < vy.cells.size := by simpa using hj
              simp [this]
            rw [← e]
            exact l2.one l1
          have hst := run_storeCells_at (P := P) b off T vy.cells.toList 0 vs w hheap (by simp [h1, hn]; omega) hone
          have hrun : (Instr.storeAt t (.pointer (some ⟨b, off, none⟩)) vy).run P w = .ok () (w.setRow b (vs.toList.take (off + 0) ++ vy.cells.toList ++ vs.toList.drop (off + 0 + vy.cells.toList.length)).toArray) := by
            simp [Instr.storeAt, Instr.sureAddr, storeVar, ht.size_run, h1, hsz]
            simpa [h1, hsz] using hst
          refine does_u hrun ?_
          have hblk : blk (h id) (G id) = some b := by rw [hh, hG]; rfl
          have hI : ∀ a, I a → a.block ≠ b := fun a ha e => (hg.h.imm a ha).2.2 id (by rw [hblk, e])
          have hm : Mono G I w G I (w.setRow b (vs.toList.take (off + 0) ++ vy.cells.toList ++ vs.toList.drop (off + 0 + vy.cells.toList.length)).toArray) := ⟨fun _ _ e => e, fun a ha => ⟨ha, (setRow_only w b _).cell (hI a ha)⟩⟩
          have hu := hg.upd (H' := upds h [(id, .bx (cs.take off ++ y.cells ++ cs.drop (off + y.cells.length)))]) (F' := Fr F N 0) (fun k => k = b) id (setRow_only w b (vs.toList.take (off + 0) ++ vy.cells.toList ++ vs.toList.drop (off + 0 + vy.cells.toList.length)).toArray) (fun k e => e ▸ hg.c.live id b hblk) hI (fun _ _ e => e) (by
              rw [upds_one, hG]
              refine ⟨b, _, T, rfl, setRow_heap w b vs _ T (0, 0) hheap, ?_, fun j z hz => ?_⟩
              · simp [h1, hn]
                try omega
              · rw [List.append_assoc, List.getElem?_append] at hz
                split at hz
                · rename_i hj
                  rw [List.length_take] at hj
                  rw [List.getElem?_take] at hz
                  split at hz
                  · rename_i hjo
                    obtain ⟨q1, q2⟩ := hcell j z hz
                    refine ⟨q1, ?_⟩
                    have e : ((vs.toList.take (off + 0) ++ vy.cells.toList ++ vs.toList.drop (off + 0 + vy.cells.toList.length)).toArray).getD j undef = vs.getD j undef := by
                      have hjv : j < vs.size := by rw [hn]; omega
                      simp only [Array.getD_eq_getD_getElem?, List.getElem?_toArray, List.append_assoc]
                      rw [List.getElem?_append_left (by simp; omega), List.getElem?_take, if_pos (by omega)]
                      simp
                    rw [e]
                    exact q2.mono hm
                  · cases hz
                · rename_i hj
                  rw [List.length_take, Nat.min_eq_left (by omega)] at hj hz
                  rw [List.getElem?_append] at hz
                  split at hz
                  · rename_i hj2
                    obtain ⟨q1, q2⟩ := h2 _ z hz
                    refine ⟨q1, ?_⟩
                    have e : ((vs.toList.take (off + 0) ++ vy.cells.toList ++ vs.toList.drop (off + 0 + vy.cells.toList.length)).toArray).getD j undef = vy.cells.getD (j - off) undef := by
                      simp only [Array.getD_eq_getD_getElem?, List.getElem?_toArray, List.append_assoc]
                      have hl : (vs.toList.take (off + 0)).length = off := by simp [hn]; omega
                      rw [List.getElem?_append_right (by omega), hl, List.getElem?_append_left (by simp; omega)]
                      simp
                    rw [e]
                    exact q2.mono hm
                  · rename_i hj2
                    rw [List.getElem?_drop] at hz
                    have e0 : off + y.cells.length + (j - off - y.cells.length) = j := by omega
                    rw [e0] at hz
                    obtain ⟨q1, q2⟩ := hcell j z hz
                    refine ⟨q1, ?_⟩
                    have e : ((vs.toList.take (off + 0) ++ vy.cells.toList ++ vs.toList.drop (off + 0 + vy.cells.toList.length)).toArray).getD j undef = vs.getD j undef := by
                      simp only [Array.getD_eq_getD_getElem?, List.getElem?_toArray, List.append_assoc]
                      have hl : (vs.toList.take (off + 0)).length = off := by simp [hn]; omega
                      have hl2 : vy.cells.toList.length = y.cells.length := by simpa using h1
                      rw [List.getElem?_append_right (by omega), hl, List.getElem?_append_right (by omega), List.getElem?_drop, hl2, show off + 0 + y.cells.length + (j - off - y.cells.length) = j by omega]
                      simp
                    rw [e]
                    exact q2.mono hm) (fun k hk => by rw [upds_one, hG] at hk; injection hk with hk; exact hk.symm) (fun s hs => .inr ⟨upds_ne h id _ hs, fun k e ek => hg.h.sep s id b hs (ek ▸ e) hblk⟩) (fun s hs => by
              have hne : s ≠ id := fun e => by
                have := hg.h.dom s hs.1
                rw [e, hh] at this
                cases this.1
              rw [upds_ne h id _ hne]
              exact hg.h.dom s hs.1)
          exact ⟨G, I, hu.1, hu.2, .ud _⟩
        · cases he
      | _ => rw [hh] at he; cases he
    | _ => cases he
end Go.Proofs.YtcbpghpfdjfddaaE
-- Declarations of the text that this claim uses (slim.py, a program of this session).
namespace Go.Proofs.YtcbpghpfdjfddaaE
open Go Go.RowKit
set_option linter.unusedVariables false
set_option linter.unusedSimpArgs false
section
variable {P : Program} {Γ : TEnv} {cx : Cx} {G : Gh} {I : Addr → Prop} {w : World} {h : Nat → HC} {F : Nat → Prop} {N : Nat}
def fldOf (i : Option TI) (k : Nat) : Option (TypeId × Nat) :=
  match i with
  | some ⟨.strct fl, _, _, _, _⟩ => fl[k]?
  | _ => none
def shift (x : AV) (o : Nat) : Option AV :=
  match x with
  | .pt t off => some (.pt t (off + o))
  | .el row off => some (.el row (off + o))
  | .rp t sz i off => some (.rp t sz i (off + o))
  | _ => none
def fieldAddrA (fo : Option (TypeId × Nat)) (Γ : TEnv) (x : AV) : Option Rs :=
  match fo with
  | some (ft, o) => (match Γ ft with | some fi => if fi.size = 0 then none else (shift x o).map fun r => { r := r } | none => none)
  | none => none
theorem fldOf_run (hΓ : EOk P Γ) {t : TypeId} {k : Nat} {ft : TypeId} {o : Nat} (hf : fldOf (Γ t) k = some (ft, o)) : ∃ fs f, P.underlying t = some (.struct fs) ∧ fs[k]? = some f ∧ f.type = ft ∧ f.offset = o := by
  cases hi : Γ t with
  | none => rw [hi] at hf; cases hf
  | some i =>
    rw [hi] at hf
    obtain ⟨kk, zv, s, b, q⟩ := i
    cases kk with
    | strct fl =>
      obtain ⟨d, hd, hk⟩ := (hΓ t _ hi).und
      obtain ⟨fs, rfl, hfs⟩ := kd_strct hk
      simp only [fldOf] at hf
      rw [← hfs, List.getElem?_map] at hf
      obtain ⟨f, h1, h2⟩ := Option.map_eq_some_iff.1 hf
      injection h2 with h2 h3
      exact ⟨fs, f, hd, by simpa using h1, h2, h3⟩
    | _ => cases hf
theorem shift_rel {x r : AV} {v : Value} {o : Nat} (hx : VR G I w x v) (h : shift x o = some r) : ∃ a, v = .pointer (some a) ∧ VR G I w r (.pointer (some (a.add o))) := by
  cases hx with
  | pt id off b hG =>
    injection h with h; subst h
    exact ⟨_, rfl, by rw [add_lit]; exact .pt id _ b hG⟩
  | el row off a val hsp h1 h2 =>
    injection h with h; subst h
    exact ⟨_, rfl, by rw [add_add _ _ _ hsp]; exact .el row _ a val hsp h1 h2⟩
  | rp id sz j off b n c hG =>
    injection h with h; subst h
    exact ⟨_, rfl, by rw [add_lit, Nat.add_assoc]; exact .rp id sz j _ b n c hG⟩
  | _ => cases h
theorem so_fieldAddr (hΓ : EOk P Γ) (hg : GS P cx G I w h F) {t : TypeId} {k : Nat} {x : AV} {vx : Value} {R : Rs} (hx : VR G I w x vx) (he : fieldAddrA (fldOf (Γ t) k) Γ x = some R) :
    Does P (do let a ← Instr.fieldAt t vx k; pure (Next.value a)) w (Aft P cx G I w h F N R) := by
  cases hf : fldOf (Γ t) k with
  | none => rw [hf] at he; cases he
  | some fo =>
    obtain ⟨ft, o⟩ := fo
    rw [hf] at he
    simp only [fieldAddrA] at he
    cases hi : Γ ft with
    | none => rw [hi] at he; cases he
    | some fi =>
      rw [hi] at he
      simp only [] at he
      split at he
      · cases he
      · rename_i hz
        obtain ⟨r, hr, rfl⟩ := Option.map_eq_some_iff.1 he
        obtain ⟨a, rfl, hv⟩ := shift_rel hx hr
        obtain ⟨fs, f, hd, hfk, rfl, rfl⟩ := fldOf_run hΓ hf
        have hs := (hΓ _ _ hi).size_run (w := w)
        exact does_v (by simp [Instr.fieldAt, run_underlying hd, hfk, Instr.sureAddr, fieldPlace, hs, hz]) (Aft.same hg rfl rfl hv)
def fieldA (fo : Option (TypeId × Nat)) (Γ : TEnv) (x : AV) : Option Rs :=
  match fo, x with
  | some (ft, o), .ag cs => (match Γ ft with | some fi => (ld fi cs o).map fun r => { r := r } | none => none)
  | _, _ => none
theorem so_field (hΓ : EOk P Γ) (hg : GS P cx G I w h F) {t : TypeId} {k : Nat} {x : AV} {vx : Value} {R : Rs} (hx : VR G I w x vx) (he : fieldA (fldOf (Γ t) k) Γ x = some R) :
    Does P (do let a ← Instr.field t vx k; pure (Next.value a)) w (Aft P cx G I w h F N R) := by
  cases hf : fldOf (Γ t) k with
  | none => rw [hf] at he; cases he
  | some fo =>
    obtain ⟨ft, o⟩ := fo
    rw [hf] at he
    cases hx with
    | ag cs vs hn hl hc =>
      simp only [fieldA] at he
      cases hi : Γ ft with
      | none => rw [hi] at he; cases he
      | some fi =>
        rw [hi] at he
        obtain ⟨r, hr, rfl⟩ := Option.map_eq_some_iff.1 he
        obtain ⟨fs, f, hd, hfk, rfl, rfl⟩ := fldOf_run hΓ hf
        have ht := hΓ _ _ hi
        unfold ld at hr
        cases hk : fi.k.agg with
        | true =>
          rw [hk] at hr
          simp only [] at hr
          split at hr
          · rename_i hle
            injection hr with hr
            subst hr
            refine does_v (v := .agg (vs.extract f.offset (f.offset + fi.size))) (w' := w) (by simp [Instr.field, run_underlying hd, hfk, part, ht.agg_run, hk, ht.size_run, asAgg]) (Aft.same hg rfl rfl (.ag _ _ (by simp; omega) (fun x hx => hl x (List.mem_of_mem_drop (List.mem_of_mem_take hx))) (fun i x hi => ?_)))
            rw [List.getElem?_take] at hi
            split at hi
            · rename_i hlt
              rw [List.getElem?_drop] at hi
              have e : (vs.extract f.offset (f.offset + fi.size)).getD i undef = vs.getD (f.offset + i) undef := by
                have h1 : f.offset + i < vs.size := by rw [hn]; exact (List.getElem?_eq_some_iff.1 hi).1
                simp only [Array.getD_eq_getD_getElem?, Array.getElem?_extract]
                rw [if_pos (by omega)]
              rw [e]
              exact hc _ x hi
            · cases hi
          · cases hr
        | false =>
          rw [hk] at hr
          simp only [] at hr
          have hlt : f.offset < vs.size := by rw [hn]; exact (List.getElem?_eq_some_iff.1 hr).1
          have := hc _ r hr
          have e : vs.getD f.offset undef = vs[f.offset] := by simp [hlt]
          rw [e] at this
          exact does_v (by simp [Instr.field, run_underlying hd, hfk, part, ht.agg_run, hk, asAgg, hlt]) (Aft.same hg rfl rfl this)
    | _ => cases he
def elOf (i : Option TI) : Option TypeId :=
  match i with
  | some ⟨.slc e, _, _, _, _⟩ => some e
  | _ => none
theorem elOf_run (hΓ : EOk P Γ) {t e : TypeId} (hf : elOf (Γ t) = some e) : P.underlying t = some (.slice e) := by
  cases hi : Γ t with
  | none => rw [hi] at hf; cases hf
  | some i =>
    rw [hi] at hf
    obtain ⟨kk, zv, s, b, q⟩ := i
    cases kk with
    | slc e' =>
      injection hf with hf
      subst hf
      obtain ⟨d, hd, hk⟩ := (hΓ t _ hi).und
      rw [kd_slc hk] at hd
      exact hd
    | _ => cases hf
def szOf (e : Option TypeId) (Γ : TEnv) : Option Nat :=
  match e with
  | some e => (Γ e).map (·.size)
  | none => none
def indexAddrA (es : Option Nat) (h : Nat → HC) (x ix : AV) (ch : Ch) : Option Rs :=
  match es, x, ix with
  | some s, .ls sz xs, .sc (.int k n) => (match ch with | .row r => some { r := .el r 0, side := s = sz ∧ 0 ≤ n ∧ xs[n.toNat]? = some r } | _ => none)
  | some s, .ow id, .sc (.int k n) => (match h id with | .row e sz xs => some { r := .rp id sz n.toNat 0, rd := [id], side := s = sz ∧ 0 ≤ n ∧ n < (xs.length : Int) } | _ => none)
  | _, _, _ => none
theorem so_indexAddr (hΓ : EOk P Γ) (hg : GS P cx G I w h F) {t : TypeId} {x ix : AV} {vx vi : Value} {ch : Ch} {R : Rs} (hx : VR G I w x vx) (hi : VR G I w ix vi) (he : indexAddrA (szOf (elOf (Γ t)) Γ) h x ix ch = some R) (hs : R.side) :
    Does P (do let a ← Instr.indexAt t vx vi; pure (Next.value a)) w (Aft P cx G I w h F N R) := by
  cases hel : elOf (Γ t) with
  | none => rw [hel] at he; cases he
  | some e =>
    rw [hel] at he
    have hd := elOf_run hΓ hel
    simp only [szOf] at he
    cases hei : Γ e with
    | none => rw [hei] at he; cases he
    | some ei =>
      rw [hei] at he
      have hsz := (hΓ _ _ hei).size_run (w := w)
      cases hi with
      | sc y hy =>
        cases vi with
        | int k n =>
          cases hx with
          | ls sz xs v hv =>
            cases ch with
            | row r =>
              injection he with he
              subst he
              obtain ⟨rfl, h0, hr⟩ := hs
              cases hv with
              | l _ _ a A c val hc hss hA hsp hh hdd =>
                have hlt : n.toNat < xs.length := (List.getElem?_eq_some_iff.1 hr).1
                have hne : xs ≠ [] := fun e => by rw [e] at hlt; cases hlt
                have hA' := hA hne
                subst hA'
                have hvr : VR G I w (.el r 0) (.pointer (some (a.add (n.toNat * ei.size)))) := by
                  have := VR.el (G := G) (I := I) (w := w) r 0 (a.add (n.toNat * ei.size)) (fun j => val n.toNat j) (Mono.addr hsp) (fun j x hj => by
                    rw [add_add _ _ _ hsp]; exact hh _ j r x hr hj) (fun j x hj => hdd _ j r x hr hj)
                  rwa [add_zero' _ (Mono.addr hsp)] at this
                have hb : (0 : Int) ≤ n ∧ n < (xs.length : Int) := ⟨h0, by omega⟩
                exact does_v (by simp [Instr.indexAt, asIntOf, run_underlying hd, hb, hsz]) (Aft.same hg rfl rfl hvr)
            | _ => cases he
          | ow id A m c hG =>
            simp only [Option.map_some, indexAddrA] at he
            cases hh : h id with
            | row e' sz xs =>
              rw [hh] at he
              injection he with he
              subst he
              obtain ⟨rfl, h0, hlt⟩ := hs
              have hc := hg.h.cr id
              rw [hh, hG] at hc
              obtain ⟨_, hlen, v, vs, hgv, ho, hcell⟩ := hc
              injection hgv with hgv
              subst hgv
              obtain ⟨_, ⟨hv, hn0⟩ | ⟨g', cap, cur, hv, _⟩⟩ := ho
              · omega
              · cases hv
                have hb : (0 : Int) ≤ n ∧ n < (xs.length : Int) := ⟨h0, hlt⟩
                have hvr : VR G I w (.rp id ei.size n.toNat 0) (.pointer (some ⟨g', n.toNat * ei.size + 0, none⟩)) := .rp id _ _ 0 g' _ _ hG
                exact does_v (by simp [Instr.indexAt, asIntOf, run_underlying hd, hb, hsz, add_lit]) (Aft.same hg rfl rfl hvr)
            | _ => rw [hh] at he; cases he
          | _ => cases he
        | _ => cases hx <;> cases he
      | _ => cases hx <;> cases he
def resI (k : IntKind) (raw : Int) (ch : Ch) : Rs :=
  match ch with
  | .i n => { r := .sc (.int k n), side := raw = n }
  | _ => { r := .sc (.int k raw) }
def resB (raw : Bool) (ch : Ch) : Rs :=
  match ch with
  | .b v => { r := .sc (.bool v), side := raw = v }
  | _ => { r := .sc (.bool raw) }
theorem resI_rel {k : IntKind} {raw : Int} {ch : Ch} (hs : (resI k raw ch).side) : VR G I w (resI k raw ch).r (.int k raw) := by
  unfold resI at *
  split at hs <;> first | (subst hs; exact .sc _ rfl) | exact .sc _ rfl
theorem resB_rel {raw : Bool} {ch : Ch} (hs : (resB raw ch).side) : VR G I w (resB raw ch).r (.bool raw) := by
  unfold resB at *
  split at hs <;> first | (subst hs; exact .sc _ rfl) | exact .sc _ rfl
theorem resI_same {k : IntKind} {raw : Int} {ch : Ch} (hg : GS P cx G I w h F) (hs : (resI k raw ch).side) : Aft P cx G I w h F N (resI k raw ch) (.int k raw) w := by
  refine Aft.same hg ?_ ?_ (resI_rel hs) <;> unfold resI <;> split <;> rfl
theorem resB_same {raw : Bool} {ch : Ch} (hg : GS P cx G I w h F) (hs : (resB raw ch).side) : Aft P cx G I w h F N (resB raw ch) (.bool raw) w := by
  refine Aft.same hg ?_ ?_ (resB_rel hs) <;> unfold resB <;> split <;> rfl
def Rs.and (R : Rs) (p : Prop) : Rs := { R with side := p ∧ R.side }
theorem Aft.and {R : Rs} {p : Prop} {v : Value} {w' : World} (h1 : Aft P cx G I w h F N R v w') : Aft P cx G I w h F N (R.and p) v w' := h1
def intA (op : BinOp) (k : IntKind) (a b : Int) (ch : Ch) : Option Rs :=
  match op with
  | .add => some (resI k (k.wrap (a + b)) ch)
  | .sub => some (resI k (k.wrap (a - b)) ch)
  | .mul => some (resI k (k.wrap (a * b)) ch)
  | .quo => some ((resI k (k.wrap (a.tdiv b)) ch).and (b ≠ 0))
  | .rem => some ((resI k (a.tmod b) ch).and (b ≠ 0))
  | .eql => some (resB (decide (a = b)) ch)
  | .neq => some (resB (decide (a ≠ b)) ch)
  | .lss => some (resB (decide (a < b)) ch)
  | .leq => some (resB (decide (a ≤ b)) ch)
  | .gtr => some (resB (decide (a > b)) ch)
  | .geq => some (resB (decide (a ≥ b)) ch)
  | _ => none
def strA (op : BinOp) (a b : ByteArray) (ch : Ch) : Option Rs :=
  match op with
  | .add => some { r := .sc (.string (a ++ b)), side := ((a.size + b.size : Nat) : Int) ≤ IntKind.i64.max }
  | .eql => some (resB (a == b) ch)
  | .neq => some (resB (!(a == b)) ch)
  | _ => none
def leafEq : AV → AV → Option Bool
  | .sc (.int k a), .sc (.int k' b) => if k = k' then some (decide (a = b)) else none
  | .sc (.string a), .sc (.string b) => some (a == b)
  | .sc (.bool a), .sc (.bool b) => some (a == b)
  | _, _ => none
def kLeaf (k : TK) (x : AV) : Bool :=
  match k, x with
  | .int _, .sc (.int _ _) => true
  | .str, .sc (.string _) => true
  | .bool, .sc (.bool _) => true
  | _, _ => false
def eqFl (Γ : TEnv) (cs ds : List AV) : List (TypeId × Nat) → Option Bool
  | [] => some true
  | (ft, o) :: r =>
    match Γ ft, cs[o]?, ds[o]?, eqFl Γ cs ds r with
    | some fi, some x, some y, some b => if kLeaf fi.k x = true ∧ fi.k.agg = false then (leafEq x y).map fun q => q && b else none
    | _, _, _, _ => none
def flOf (i : Option TI) : Option (List (TypeId × Nat)) :=
  match i with
  | some ⟨.strct fl, _, _, _, true⟩ => some fl
  | _ => none
def structA (op : BinOp) (r : Option Bool) (ch : Ch) : Option Rs :=
  match op, r with
  | .eql, some b => some (resB b ch)
  | .neq, some b => some (resB (!b) ch)
  | _, _ => none
def isBool (i : Option TI) : Bool :=
  match i with
  | some ⟨.bool, _, _, _, _⟩ => true
  | _ => false
def boolA (i : Bool) (op : BinOp) (a b : Bool) (ch : Ch) : Option Rs :=
  match i, op with
  | true, .eql => some (resB (a == b) ch)
  | true, .neq => some (resB (!(a == b)) ch)
  | _, _ => none
def binA (Γ : TEnv) (t : TypeId) (op : BinOp) (x y : AV) (ch : Ch) : Option Rs :=
  match x, y with
  | .sc (.int k a), .sc (.int k' b) => if k = k' then intA op k a b ch else none
  | .sc (.string a), .sc (.string b) => strA op a b ch
  | .sc (.bool a), .sc (.bool b) => boolA (isBool (Γ t)) op a b ch
  | .ag cs, .ag ds => (match flOf (Γ t) with | some fl => structA op (eqFl Γ cs ds fl) ch | none => none)
  | _, _ => none
theorem guard_plain (op : BinOp) (t : TypeId) (x y : Operand) (a b : Value) (h1 : ∀ xs ys, a = .agg xs → b = .agg ys → False) (h2 : a = .nilIface → b = .nilIface → False) : (eqGuard op t x y a b).run P w = .ok () w := by
  unfold eqGuard
  cases op <;> simp
  all_goals
    split
    · exact (h2 rfl rfl).elim
    · exact (h1 _ _ rfl rfl).elim
    · rfl
theorem so_int {op : BinOp} {t : TypeId} {ox oy : Operand} {k : IntKind} {a b : Int} {ch : Ch} {R : Rs} (hg : GS P cx G I w h F) (he : intA op k a b ch = some R) (hs : R.side) :
    Does P (do let a ← (do eqGuard op t ox oy (.int k a) (.int k b); binOp op t (.int k a) (.int k b)); pure (Next.value a)) w (Aft P cx G I w h F N R) := by
  have hgd := guard_plain (P := P) (w := w) op t ox oy (.int k a) (.int k b) (fun _ _ h => by cases h) (fun h => by cases h)
  cases op <;> simp only [intA] at he <;> first | cases he | skip
  all_goals first
    | (refine does_v ?_ (resI_same hg hs); simp only [Sem.run_bind, hgd, Result.andThen_ok, binOp]; simp [Op.intArith])
    | (refine does_v ?_ (resB_same hg hs); simp only [Sem.run_bind, hgd, Result.andThen_ok, binOp]; simp [Op.intCmp]; done)
    | (refine does_v ?_ (resB_same hg hs); simp only [Sem.run_bind, hgd, Result.andThen_ok, binOp]; simp [Op.intCmp]; rfl)
    | (refine does_v ?_ (resB_same hg hs); simp only [Sem.run_bind, hgd, Result.andThen_ok, binOp, Op.intCmp, Sem.run_pure]; rw [show (a != b) = decide (a ≠ b) from by rw [Bool.eq_iff_iff]; simp]; done)
    | (refine does_v ?_ (resI_same hg hs.2).and; have h0 := hs.1; simp only [Sem.run_bind, hgd, Result.andThen_ok, binOp]; simp [Op.intDiv, h0])
end
end Go.Proofs.YtcbpghpfdjfddaaE
-- Declarations of the text that this claim uses (slim.py, a program of this session).
namespace Go.Proofs.YtcbpghpfdjfddaaE
open Go Go.RowKit
set_option linter.unusedVariables false
set_option linter.unusedSimpArgs false
section
variable {P : Program} {Γ : TEnv} {cx : Cx} {G : Gh} {I : Addr → Prop} {w : World} {h : Nat → HC} {F : Nat → Prop} {N : Nat}
theorem so_str {op : BinOp} {t : TypeId} {ox oy : Operand} {a b : ByteArray} {ch : Ch} {R : Rs} (hg : GS P cx G I w h F) (he : strA op a b ch = some R) (hs : R.side) :
    Does P (do let a ← (do eqGuard op t ox oy (.string a) (.string b); binOp op t (.string a) (.string b)); pure (Next.value a)) w (Aft P cx G I w h F N R) := by
  have hgd := guard_plain (P := P) (w := w) op t ox oy (.string a) (.string b) (fun _ _ h => by cases h) (fun h => by cases h)
  cases op <;> simp only [strA] at he <;> first | cases he | skip
  · have hsz : ¬ (((a.size + b.size : Nat) : Int) > IntKind.i64.max) := by simp only [] at hs; omega
    refine does_v (v := .string (a ++ b)) (w' := w) ?_ (Aft.same hg rfl rfl (.sc _ rfl))
    simp only [Sem.run_bind, hgd, Result.andThen_ok, binOp, Op.stringOp]
    rw [if_neg hsz]
    rfl
  · refine does_v ?_ (resB_same hg hs)
    simp only [Sem.run_bind, hgd, Result.andThen_ok, binOp, Op.stringOp, beq_toListBytes]
    rfl
  · refine does_v ?_ (resB_same hg hs)
    simp only [Sem.run_bind, hgd, Result.andThen_ok, binOp, Op.stringOp, beq_toListBytes]
    rfl
theorem isBool_und (hΓ : EOk P Γ) {t : TypeId} (hb : isBool (Γ t) = true) : P.underlying t = some .bool := by
  cases hi : Γ t with
  | none => rw [hi] at hb; cases hb
  | some i =>
    rw [hi] at hb
    obtain ⟨kk, zv, s, b, q⟩ := i
    cases kk with
    | bool =>
      obtain ⟨d, hd, hk⟩ := (hΓ t _ hi).und
      rw [kd_bool hk] at hd
      exact hd
    | _ => cases hb
theorem so_bool (hΓ : EOk P Γ) {op : BinOp} {t : TypeId} {ox oy : Operand} {a b : Bool} {ch : Ch} {R : Rs} (hg : GS P cx G I w h F) (he : boolA (isBool (Γ t)) op a b ch = some R) (hs : R.side) :
    Does P (do let a ← (do eqGuard op t ox oy (.bool a) (.bool b); binOp op t (.bool a) (.bool b)); pure (Next.value a)) w (Aft P cx G I w h F N R) := by
  have hgd := guard_plain (P := P) (w := w) op t ox oy (.bool a) (.bool b) (fun _ _ h => by cases h) (fun h => by cases h)
  cases hb : isBool (Γ t) with
  | false => rw [hb] at he; cases he
  | true =>
    rw [hb] at he
    have hu := isBool_und hΓ hb
    cases op <;> simp only [boolA] at he <;> first | cases he | skip
    · refine does_v ?_ (resB_same hg hs)
      simp only [Sem.run_bind, hgd, Result.andThen_ok, run_eql_bool w t a b hu]
    · refine does_v ?_ (resB_same hg hs)
      simp only [Sem.run_bind, hgd, Result.andThen_ok, run_neq_bool w t a b hu]
theorem flOf_run (hΓ : EOk P Γ) {t : TypeId} {fl : List (TypeId × Nat)} (hf : flOf (Γ t) = some fl) : ∃ fs : Array Field, P.underlying t = some (.struct fs) ∧ fs.toList.map (fun f => (f.type, f.offset)) = fl ∧ P.stoodInHeld t = false ∧ P.eqGuardType P.depth t = false ∧ (fs.toList.all fun f => f.name != "_") = true := by
  cases hi : Γ t with
  | none => rw [hi] at hf; cases hf
  | some i =>
    rw [hi] at hf
    obtain ⟨kk, zv, s, b, q⟩ := i
    cases kk with
    | strct fl' =>
      cases q with
      | true =>
        injection hf with hf
        subst hf
        have hok := hΓ t _ hi
        obtain ⟨d, hd, hk⟩ := hok.und
        obtain ⟨fs, rfl, hfs⟩ := kd_strct hk
        have he := hok.2.2
        simp only [hd, Bool.not_true, Bool.false_or, Bool.and_eq_true, Bool.not_eq_true'] at he
        exact ⟨fs, hd, hfs, he.1, he.2.1, he.2.2⟩
      | false => cases hf
    | _ => cases hf
theorem leafEq_run {d : Nat} {ft : TypeId} {fi : TI} (hi : TOk P ft fi) {x y : AV} {vx vy : Value} {q : Bool} (hk : kLeaf fi.k x = true) (hx : VR G I w x vx) (hy : VR G I w y vy) (he : leafEq x y = some q) : (Op.equalIn (d + 1) ft vx vy).run P w = .ok q w := by
  obtain ⟨dd, hd, hkd⟩ := hi.und
  cases hx with
  | sc vx h1 =>
    cases hy with
    | sc vy h2 =>
      cases vx <;> cases vy <;> simp only [leafEq] at he <;> first | cases he | skip
      · rename_i a b
        have hkb : fi.k = .bool := by
          revert hk
          cases fi.k <;> simp [kLeaf]
        rw [hkb] at hkd
        rw [run_equalIn_bool' w d ft a b (by rw [hd, kd_bool hkd])]
      · rename_i k a k' b
        split at he
        · rename_i hkk
          injection he with he
          subst he
          subst hkk
          obtain ⟨kk, hkb⟩ : ∃ kk, fi.k = .int kk := by
            revert hk
            cases fi.k <;> simp [kLeaf]
          rw [hkb] at hkd
          rw [run_equalIn_int w d ft k kk a b (by rw [hd, kd_int hkd])]
          rfl
        · cases he
      · rename_i a b
        have hkb : fi.k = .str := by
          revert hk
          cases fi.k <;> simp [kLeaf]
        rw [hkb] at hkd
        rw [run_equalIn_string w d ft a b (by rw [hd, kd_str hkd]), ← beq_toListBytes]
    | _ => simp only [leafEq] at he; first | cases he | (split at he <;> cases he)
  | _ => cases he
theorem eqFl_run (hΓ : EOk P Γ) {cs ds : List AV} {xs ys : Array Value} (hcn : xs.size = cs.length) (hdn : ys.size = ds.length) (hc : ∀ (i : Nat) (x : AV), cs[i]? = some x → VR G I w x (xs.getD i undef)) (hd : ∀ (i : Nat) (x : AV), ds[i]? = some x → VR G I w x (ys.getD i undef)) (d : Nat) :
    ∀ (fs : List Field) (r : Bool), (fs.all fun f => f.name != "_") = true → eqFl Γ cs ds (fs.map fun f => (f.type, f.offset)) = some r → (Op.eqFields (d + 1) xs ys fs).run P w = .ok r w
  | [], r, _, he => by injection he with he; subst he; simp [Op.eqFields]
  | f :: fs, r, hn, he => by
    rw [List.all_cons, Bool.and_eq_true] at hn
    simp only [List.map_cons, eqFl] at he
    cases hi : Γ f.type with
    | none => rw [hi] at he; cases he
    | some fi =>
      rw [hi] at he
      cases hx : cs[f.offset]? with
      | none => rw [hx] at he; cases he
      | some x =>
        cases hy : ds[f.offset]? with
        | none => rw [hx, hy] at he; cases he
        | some y =>
          cases hr : eqFl Γ cs ds (fs.map fun f => (f.type, f.offset)) with
          | none => rw [hx, hy, hr] at he; cases he
          | some b =>
            rw [hx, hy, hr] at he
            simp only [] at he
            split at he
            · rename_i hk
              obtain ⟨q, hq, rfl⟩ := Option.map_eq_some_iff.1 he
              have ih := eqFl_run hΓ hcn hdn hc hd d fs b hn.2 hr
              have hok := hΓ _ _ hi
              have hxl : f.offset < xs.size := by rw [hcn]; exact (List.getElem?_eq_some_iff.1 hx).1
              have hyl : f.offset < ys.size := by rw [hdn]; exact (List.getElem?_eq_some_iff.1 hy).1
              have e1 : xs.getD f.offset undef = xs[f.offset] := by simp [hxl]
              have e2 : ys.getD f.offset undef = ys[f.offset] := by simp [hyl]
              have h1 := hc _ _ hx
              have h2 := hd _ _ hy
              rw [e1] at h1
              rw [e2] at h2
              have p1 : (part f.type xs f.offset).run P w = .ok xs[f.offset] w := by simp [part, hok.agg_run, hk.2, hxl]
              have p2 : (part f.type ys f.offset).run P w = .ok ys[f.offset] w := by simp [part, hok.agg_run, hk.2, hyl]
              have p3 := leafEq_run (d := d) hok hk.1 h1 h2 hq
              have hne : f.name ≠ "_" := by simpa using hn.1
              simp only [Op.eqFields, if_pos hne, Sem.run_bind, p1, p2, p3, Result.andThen_ok]
              cases q
              · simp
              · simpa using ih
            · cases he
theorem so_struct (hΓ : EOk P Γ) {op : BinOp} {t : TypeId} {ox oy : Operand} {cs ds : List AV} {xs ys : Value} {fl : List (TypeId × Nat)} (hf : flOf (Γ t) = some fl) {ch : Ch} {R : Rs} (hg : GS P cx G I w h F) (hx : VR G I w (.ag cs) xs) (hy : VR G I w (.ag ds) ys) (he : structA op (eqFl Γ cs ds fl) ch = some R) (hs : R.side) :
    Does P (do let a ← (do eqGuard op t ox oy xs ys; binOp op t xs ys); pure (Next.value a)) w (Aft P cx G I w h F N R) := by
  obtain ⟨fs, hu, rfl, hst, hgt, hnm⟩ := flOf_run hΓ hf
  cases hx with
  | ag _ xs hcn hl1 hc =>
    cases hy with
    | ag _ ys hdn hl2 hd =>
      cases hr : eqFl Γ cs ds (fs.toList.map fun f => (f.type, f.offset)) with
      | none => rw [hr] at he; cases op <;> cases he
      | some b =>
        rw [hr] at he
        have h1 := eqFl_run hΓ hcn hdn hc hd 9998 fs.toList b hnm hr
        have hfo : P.fieldsOf t = fs := by simp [Program.fieldsOf, hu]
        have h2 : (Op.equalIn 10000 t (.agg xs) (.agg ys)).run P w = .ok b w := by
          rw [run_equalIn_struct (P := P) w 9999 t xs ys (by rw [hfo]; exact hu) hst, hfo]
          exact h1
        have hgd := run_eqGuard_agg (P := P) w op t ox oy xs ys hgt
        cases op <;> simp only [structA] at he <;> first | cases he | skip
        · refine does_v ?_ (resB_same hg hs)
          simp only [Sem.run_bind, hgd, Result.andThen_ok, run_eql_struct, h2]
        · refine does_v ?_ (resB_same hg hs)
          simp only [Sem.run_bind, hgd, Result.andThen_ok, run_neq_struct, h2]
theorem so_bin (hΓ : EOk P Γ) {op : BinOp} {t : TypeId} {ox oy : Operand} {x y : AV} {vx vy : Value} {ch : Ch} {R : Rs} (hg : GS P cx G I w h F) (hx : VR G I w x vx) (hy : VR G I w y vy) (he : binA Γ t op x y ch = some R) (hs : R.side) :
    Does P (do let a ← (do eqGuard op t ox oy vx vy; binOp op t vx vy); pure (Next.value a)) w (Aft P cx G I w h F N R) := by
  unfold binA at he
  split at he
  · split at he
    · rename_i hk
      subst hk
      cases hx
      cases hy
      exact so_int hg he hs
    · cases he
  · cases hx
    cases hy
    exact so_str hg he hs
  · cases hx
    cases hy
    exact so_bool hΓ hg he hs
  · rename_i cs ds
    cases hf : flOf (Γ t) with
    | none => rw [hf] at he; cases he
    | some fl =>
      rw [hf] at he
      exact so_struct hΓ hf hg hx hy he hs
  · cases he
def unA (op : UnOp) (x : AV) (ch : Ch) : Option Rs :=
  match op, x with
  | .not, .sc (.bool b) => some (resB (!b) ch)
  | .neg, .sc (.int k n) => some (resI k (k.wrap (0 - n)) ch)
  | _, _ => none
theorem so_un {op : UnOp} {x : AV} {vx : Value} {ch : Ch} {R : Rs} (hg : GS P cx G I w h F) (hx : VR G I w x vx) (he : unA op x ch = some R) (hs : R.side) : Does P (do let a ← Op.unary op vx; pure (Next.value a)) w (Aft P cx G I w h F N R) := by
  cases hx with
  | sc v hv =>
    cases op <;> cases vx <;> simp only [unA] at he <;> first | cases he | skip
    · refine does_v ?_ (resI_same hg hs)
      simp [Op.unary, Op.intArith]
    · refine does_v ?_ (resB_same hg hs)
      simp [Op.unary]
  | _ => cases op <;> cases he
def intK (i : Option TI) : Option IntKind :=
  match i with
  | some ⟨.int k, _, _, _, _⟩ => some k
  | _ => none
def isStr (i : Option TI) : Bool :=
  match i with
  | some ⟨.str, _, _, _, _⟩ => true
  | _ => false
def convA (s d : Option TI) (x : AV) (ch : Ch) : Option Rs :=
  match s, x with
  | some _, .sc (.int k n) => (match intK d with | some k' => some (resI k' (k'.wrap n) ch) | none => none)
  | some _, .sc (.string v) => if isStr d = true then some { r := .sc (.string v) } else none
  | _, _ => none
theorem intK_und (hΓ : EOk P Γ) {t : TypeId} {k : IntKind} (hb : intK (Γ t) = some k) : P.underlying t = some (.int k) := by
  cases hi : Γ t with
  | none => rw [hi] at hb; cases hb
  | some i =>
    rw [hi] at hb
    obtain ⟨kk, zv, s, b, q⟩ := i
    cases kk with
    | int k' =>
      injection hb with hb
      subst hb
      obtain ⟨d, hd, hk⟩ := (hΓ t _ hi).und
      rw [kd_int hk] at hd
      exact hd
    | _ => cases hb
theorem isStr_und (hΓ : EOk P Γ) {t : TypeId} (hb : isStr (Γ t) = true) : P.underlying t = some .string := by
  cases hi : Γ t with
  | none => rw [hi] at hb; cases hb
  | some i =>
    rw [hi] at hb
    obtain ⟨kk, zv, s, b, q⟩ := i
    cases kk with
    | str =>
      obtain ⟨d, hd, hk⟩ := (hΓ t _ hi).und
      rw [kd_str hk] at hd
      exact hd
    | _ => cases hb
theorem so_conv (hΓ : EOk P Γ) {s d : TypeId} {x : AV} {vx : Value} {ch : Ch} {R : Rs} (hg : GS P cx G I w h F) (hx : VR G I w x vx) (he : convA (Γ s) (Γ d) x ch = some R) (hs : R.side) : Does P (do let a ← convert s d vx; pure (Next.value a)) w (Aft P cx G I w h F N R) := by
  cases hi : Γ s with
  | none => rw [hi] at he; cases he
  | some si =>
    rw [hi] at he
    obtain ⟨sd, hsd, _⟩ := (hΓ s si hi).und
    cases hx with
    | sc v hv =>
      cases vx <;> simp only [convA] at he <;> first | cases he | skip
      · cases hk : intK (Γ d) with
        | none => rw [hk] at he; cases he
        | some k' =>
          rw [hk] at he
          injection he with he
          subst he
          have hd := intK_und hΓ hk
          exact does_v (by simp [convert, run_underlying hsd, run_underlying hd, Conv.intToInt]) (resI_same hg hs)
      · split at he
        · rename_i hst
          injection he with he
          subst he
          have hd := isStr_und hΓ hst
          exact does_v (by simp [convert, run_underlying hsd, run_underlying hd]) (Aft.same hg rfl rfl (.sc _ rfl))
        · cases he
    | _ => cases he
def lenOfA (h : Nat → HC) (x : AV) : Option (Nat × List Nat) :=
  match x with
  | .ls _ xs => some (xs.length, [])
  | .nl => some (0, [])
  | .ow id => (match h id with | .row _ _ xs => some (xs.length, [id]) | _ => none)
  | _ => none
def lenA (i : Option TI) (h : Nat → HC) (x : AV) (ch : Ch) : Option Rs :=
  match x with
  | .sc (.string s) => if isStr i = true then some (resI .i64 (s.size : Int) ch) else none
  | x => (match elOf i, lenOfA h x with
    | some _, some (n, rd) => some { resI .i64 (n : Int) ch with rd := rd }
    | _, _ => none)
theorem lenOfA_rel (hg : GS P cx G I w h F) {x : AV} {v : Value} {n : Nat} {rd : List Nat} (hx : VR G I w x v) (he : lenOfA h x = some (n, rd)) : ∃ A c, v = .slice A n c := by
  cases hx with
  | ls sz xs v hv =>
    injection he with he
    injection he with he _
    subst he
    cases hv
    exact ⟨_, _, rfl⟩
  | nl => injection he with he; injection he with he _; subst he; exact ⟨_, _, rfl⟩
  | ow id A m c hG =>
    simp only [lenOfA] at he
    cases hh : h id with
    | row e sz xs =>
      rw [hh] at he
      injection he with he
      injection he with he _
      subst he
      have hc := hg.h.cr id
      rw [hh, hG] at hc
      obtain ⟨_, _, v, vs, hgv, ho, _⟩ := hc
      injection hgv with hgv
      subst hgv
      obtain ⟨_, ⟨hv, hn0⟩ | ⟨g', cap, cur, hv, _⟩⟩ := ho
      · cases hv; rw [hn0]; exact ⟨_, _, rfl⟩
      · cases hv; exact ⟨_, _, rfl⟩
    | _ => rw [hh] at he; cases he
  | _ => cases he
theorem so_len (hΓ : EOk P Γ) {t ty : TypeId} {x : AV} {vx : Value} {ch : Ch} {R : Rs} (hg : GS P cx G I w h F) (hx : VR G I w x vx) (he : lenA (Γ t) h x ch = some R) (hs : R.side) : Does P (do let a ← Builtin.len_ #[t] ty #[vx]; pure (Next.value a)) w (Aft P cx G I w h F N R) := by
  by_cases hst : ∃ s, x = .sc (.string s)
  · obtain ⟨s, rfl⟩ := hst
    cases hx
    simp only [lenA] at he
    split at he
    · rename_i hb
      injection he with he
      subst he
      have hd := isStr_und hΓ hb
      exact does_v (by simp [Builtin.len_, run_underlying hd, goInt]) (resI_same hg hs)
    · cases he
  · have he' : (match elOf (Γ t), lenOfA h x with | some _, some (n, rd) => some { resI .i64 (n : Int) ch with rd := rd } | _, _ => none) = some R := by
      unfold lenA at he
      split at he
      · exact (hst ⟨_, rfl⟩).elim
      · exact he
    cases hel : elOf (Γ t) with
    | none => rw [hel] at he'; cases he'
    | some e =>
      cases hl : lenOfA h x with
      | none => rw [hel, hl] at he'; cases he'
      | some nr =>
        obtain ⟨n, rd⟩ := nr
        rw [hel, hl] at he'
        injection he' with he'
        subst he'
        obtain ⟨A, c, rfl⟩ := lenOfA_rel hg hx hl
        have hd := elOf_run hΓ hel
        have := resI_same (N := N) (k := .i64) (raw := (n : Int)) (ch := ch) hg hs
        exact does_v (by simp [Builtin.len_, run_underlying hd, goInt]) this
end
end Go.Proofs.YtcbpghpfdjfddaaE
-- Declarations of the text that this claim uses (slim.py, a program of this session).
namespace Go.Proofs.YtcbpghpfdjfddaaE
open Go Go.RowKit
set_option linter.unusedVariables false
set_option linter.unusedSimpArgs false
section
variable {P : Program} {Γ : TEnv} {cx : Cx} {G : Gh} {I : Addr → Prop} {w : World} {h : Nat → HC} {F : Nat → Prop} {N : Nat}
def cutHi (hi : Option Int) (xs : List (List D)) : List (List D) :=
  match hi with
  | some n => xs.take n.toNat
  | none => xs
def cutLo (lo : Option Int) (xs : List (List D)) : List (List D) :=
  match lo with
  | some n => xs.drop n.toNat
  | none => xs
def intO (o : Option AV) : Option (Option Int) :=
  match o with
  | none => some none
  | some (.sc (.int _ n)) => some (some n)
  | _ => none
def sliceA (es : Option Nat) (x : AV) (lo hi : Option (Option Int)) (mx : Option AV) : Option Rs :=
  match es, x, lo, hi, mx with
  | some s, .ls sz xs, some lo, some hi, none => some { r := .ls sz (cutLo lo (cutHi hi xs)), side := s = sz ∧ 0 ≤ lo.getD 0 ∧ lo.getD 0 ≤ hi.getD xs.length ∧ hi.getD xs.length ≤ xs.length }
  | some s, .nl, some lo, some hi, none => some { r := .nl, side := lo.getD 0 = 0 ∧ hi.getD 0 = 0 }
  | _, _, _, _, _ => none
theorem intO_rel {ox : Option Operand} {ρ : Operand → AV} {ev : Operand → Value} (hρ : ∀ x, VR G I w (ρ x) (ev x)) {r : Option Int} (h : intO (ox.map ρ) = some r) : ∃ k : IntKind, ox.map ev = r.map (Value.int k) := by
  cases ox with
  | none => injection h with h; subst h; exact ⟨.i64, rfl⟩
  | some x =>
    have hx := hρ x
    simp only [Option.map_some] at h ⊢
    cases hx' : ρ x with
    | sc v =>
      rw [hx'] at h hx
      cases v <;> first | cases h | skip
      rename_i k n
      generalize ev x = v at hx
      cases hx
      exact ⟨k, rfl⟩
    | _ => rw [hx'] at h; cases h
theorem run_bounds (len cap : Nat) {lo hi : Option Int} {kl kh : IntKind} (hlc : len ≤ cap) (h0 : 0 ≤ lo.getD 0) (h1 : lo.getD 0 ≤ hi.getD len) (h2 : hi.getD len ≤ len) :
    (Instr.sliceBounds true len cap (lo.map (Value.int kl)) (hi.map (Value.int kh)) none).run P w = .ok ((lo.getD 0).toNat, (hi.getD len).toNat, cap) w := by
  cases lo with
  | none =>
    cases hi with
    | none => simp [Instr.sliceBounds]
    | some n =>
      simp only [Option.getD_none, Option.getD_some] at h0 h1 h2
      have hn : (0 : Int) ≤ n ∧ n ≤ (cap : Int) := ⟨h1, by omega⟩
      simp [Instr.sliceBounds, Instr.sliceBound, asIntOf, hn]
  | some l =>
    cases hi with
    | none =>
      simp only [Option.getD_none, Option.getD_some] at h0 h1 h2
      have hl : (0 : Int) ≤ l ∧ l ≤ (len : Int) := ⟨h0, h1⟩
      simp [Instr.sliceBounds, Instr.sliceBound, asIntOf, hl]
    | some n =>
      simp only [Option.getD_none, Option.getD_some] at h0 h1 h2
      have hn : (0 : Int) ≤ n ∧ n ≤ (cap : Int) := ⟨by omega, by omega⟩
      have hl : (0 : Int) ≤ l ∧ l ≤ ((n.toNat : Nat) : Int) := ⟨h0, by omega⟩
      simp only [Instr.sliceBounds, Instr.sliceBound, asIntOf, Option.map_some, Sem.run_bind, Sem.run_pure, Result.andThen_ok]
      simp [hn, h0, show l ≤ max n 0 by omega]
theorem cut_eq {lo hi : Option Int} {xs : List (List D)} : cutLo lo (cutHi hi xs) = (xs.take (hi.getD xs.length).toNat).drop (lo.getD 0).toNat := by
  cases lo <;> cases hi <;> simp [cutLo, cutHi]
theorem DR.cut {sz : Nat} {xs : List (List D)} {A : Option Addr} {n c l m : Nat} (hv : DR I w (.l sz xs) (.slice A n c)) (hlm : l ≤ m) (hm : m ≤ xs.length) :
    DR I w (.l sz ((xs.take m).drop l)) (.slice (if c = l then A else A.map (·.add (l * sz))) (m - l) (c - l)) := by
  cases hv with
  | l _ _ a A c val hc hs hA hsp h hd =>
    have hlen : ((xs.take m).drop l).length = m - l := by simp; omega
    rw [← hlen]
    have hel : ∀ i r, ((xs.take m).drop l)[i]? = some r → xs[l + i]? = some r := by
      intro i r hi
      rw [List.getElem?_drop, List.getElem?_take] at hi
      split at hi
      · exact hi
      · cases hi
    refine .l sz _ (a.add (l * sz)) _ _ (fun i j => val (l + i) j) (by rw [hlen]; omega) (fun r hr => hs r (List.mem_of_mem_take (List.mem_of_mem_drop hr))) (fun hne => ?_) (Mono.addr hsp) (fun i j r x hi hj => ?_) (fun i j r x hi hj => hd _ j r x (hel i r hi) hj)
    · have h1 : l < m := by
        rcases Nat.lt_or_ge l m with h | h
        · exact h
        · exact (hne (by rw [← List.length_eq_zero_iff, hlen]; omega)).elim
      rw [if_neg (by omega), hA (fun e => by rw [e] at hm; simp at hm; omega)]
      rfl
    · rw [add_add _ _ _ hsp, show l * sz + (i * sz + j) = (l + i) * sz + j by rw [Nat.add_mul]; omega]
      exact h _ j r x (hel i r hi) hj
theorem so_slice (hΓ : EOk P Γ) (hg : GS P cx G I w h F) {t : TypeId} {x : AV} {vx : Value} {lo hi mx : Option Operand} {ρ : Operand → AV} {ev : Operand → Value} (hρ : ∀ x, VR G I w (ρ x) (ev x)) {R : Rs} (hx : VR G I w x vx)
    (he : sliceA (szOf (elOf (Γ t)) Γ) x (intO (lo.map ρ)) (intO (hi.map ρ)) (mx.map ρ) = some R) (hs : R.side) : Does P (do let a ← Instr.sliceAt t vx (lo.map ev) (hi.map ev) (mx.map ev); pure (Next.value a)) w (Aft P cx G I w h F N R) := by
  cases hel : elOf (Γ t) with
  | none => rw [hel] at he; cases he
  | some e =>
    rw [hel] at he
    have hd := elOf_run hΓ hel
    simp only [szOf] at he
    cases hei : Γ e with
    | none => rw [hei] at he; cases he
    | some ei =>
      rw [hei] at he
      have hsz := (hΓ _ _ hei).size_run (w := w)
      have hpe : P.elem t = e := by simp [Program.elem, hd]
      cases hlo : intO (lo.map ρ) with
      | none => rw [hlo] at he; cases x <;> cases he
      | some l =>
        cases hhi : intO (hi.map ρ) with
        | none => rw [hlo, hhi] at he; cases x <;> cases he
        | some m =>
          rw [hlo, hhi] at he
          obtain ⟨kl, el⟩ := intO_rel hρ hlo
          obtain ⟨kh, eh⟩ := intO_rel hρ hhi
          rw [el, eh]
          cases mx with
          | some mx => cases hx <;> cases he
          | none =>
            cases hx with
            | ls sz xs v hv =>
              injection he with he
              subst he
              obtain ⟨rfl, h0, h1, h2⟩ := hs
              have hv' := hv
              cases hv with
              | l _ _ a A c val hc hss hA hsp hh hdd =>
                have hb := run_bounds (P := P) (w := w) xs.length c (lo := l) (hi := m) (kl := kl) (kh := kh) hc h0 h1 h2
                have hcut := DR.cut (l := (l.getD 0).toNat) (m := (m.getD xs.length).toNat) hv' (by omega) (by omega)
                refine does_v (v := .slice (if c = (l.getD 0).toNat then A else A.map (·.add ((l.getD 0).toNat * ei.size))) ((m.getD xs.length).toNat - (l.getD 0).toNat) (c - (l.getD 0).toNat)) (w' := w) ?_ (Aft.same hg rfl rfl ?_)
                · rw [run_sliceAt_slice (P := P) w t _ _ _ _ (by rw [hpe]; exact hd), run_slice_any (P := P) w t A xs.length c (by rw [hpe]; exact hd)]
                  simp only [Option.map_none, hb, Result.andThen_ok, hpe, hsz, sliced]
                · rw [cut_eq]
                  exact .ls _ _ _ hcut
            | nl =>
              injection he with he
              subst he
              obtain ⟨h1, h2⟩ := hs
              have hb := run_bounds (P := P) (w := w) 0 0 (lo := l) (hi := m) (kl := kl) (kh := kh) (Nat.le_refl _) (by omega) (by rw [h1]; simp [h2]) (by simp [h2])
              refine does_v (v := .slice none 0 0) (w' := w) ?_ (Aft.same hg rfl rfl .nl)
              rw [run_sliceAt_slice (P := P) w t _ _ _ _ (by rw [hpe]; exact hd), run_slice_any (P := P) w t none 0 0 (by rw [hpe]; exact hd)]
              simp only [Option.map_none, hb, Result.andThen_ok, hpe, hsz, sliced]
              simp [h1, h2]
            | _ => cases he
def extractA (x : AV) (k : Nat) : Option Rs :=
  match x with
  | .tp vs => (vs[k]?).map fun r => { r := r }
  | _ => none
theorem so_extract (hg : GS P cx G I w h F) {x : AV} {vx : Value} {k : Nat} {R : Rs} (hx : VR G I w x vx) (he : extractA x k = some R) : Does P (do let a ← Instr.extract vx k; pure (Next.value a)) w (Aft P cx G I w h F N R) := by
  cases hx with
  | tp cs vs hn hc =>
    obtain ⟨r, hr, rfl⟩ := Option.map_eq_some_iff.1 he
    have hlt : k < vs.size := by rw [hn]; exact (List.getElem?_eq_some_iff.1 hr).1
    have h1 := hc k r hr
    have e : vs.getD k undef = vs[k] := by simp [hlt]
    rw [e] at h1
    exact does_v (by simp [Instr.extract, hlt]) (Aft.same hg rfl rfl h1)
  | _ => cases he
def minA (x y : AV) (ch : Ch) : Option Rs :=
  match x, y with
  | .sc (.int k a), .sc (.int _ b) => some (resI k (if b < a then b else a) ch)
  | _, _ => none
def maxA (x y : AV) (ch : Ch) : Option Rs :=
  match x, y with
  | .sc (.int k a), .sc (.int _ b) => some (resI k (if b > a then b else a) ch)
  | _, _ => none
theorem so_min (hg : GS P cx G I w h F) {ts : Array TypeId} {t : TypeId} {x y : AV} {vx vy : Value} {ch : Ch} {R : Rs} (hx : VR G I w x vx) (hy : VR G I w y vy) (he : minA x y ch = some R) (hs : R.side) : Does P (do let a ← Builtin.min_ ts t #[vx, vy]; pure (Next.value a)) w (Aft P cx G I w h F N R) := by
  cases hx with
  | sc vx _ =>
    cases hy with
    | sc vy _ =>
      cases vx <;> cases vy <;> simp only [minA] at he <;> first | cases he | skip
      exact does_v (run_min_int2 w ts t _ _ _ _) (resI_same hg hs)
    | _ => cases vx <;> cases he
  | _ => cases he
theorem so_max (hg : GS P cx G I w h F) {ts : Array TypeId} {t : TypeId} {x y : AV} {vx vy : Value} {ch : Ch} {R : Rs} (hx : VR G I w x vx) (hy : VR G I w y vy) (he : maxA x y ch = some R) (hs : R.side) : Does P (do let a ← Builtin.max_ ts t #[vx, vy]; pure (Next.value a)) w (Aft P cx G I w h F N R) := by
  cases hx with
  | sc vx _ =>
    cases hy with
    | sc vy _ =>
      cases vx <;> cases vy <;> simp only [maxA] at he <;> first | cases he | skip
      exact does_v (run_max_int2 w ts t _ _ _ _) (resI_same hg hs)
    | _ => cases vx <;> cases he
  | _ => cases he
end
end Go.Proofs.YtcbpghpfdjfddaaE
-- Declarations of the text that this claim uses (slim.py, a program of this session).
namespace Go.Proofs.YtcbpghpfdjfddaaE
open Go Go.RowKit
set_option linter.unusedVariables false
set_option linter.unusedSimpArgs false
section
variable {P : Program} {Γ : TEnv} {cx : Cx} {G : Gh} {I : Addr → Prop} {w : World} {h : Nat → HC} {F : Nat → Prop} {N : Nat}
def CellsRel (G : Gh) (I : Addr → Prop) (w : World) (cs : List AV) (vs : Array Value) : Prop := vs.size = cs.length ∧ ∀ (i : Nat) (x : AV), cs[i]? = some x → x.leaf = true ∧ VR G I w x (vs.getD i undef)
theorem splice_rel {cs ys : List AV} {vs us vs' : Array Value} {o : Nat} (h1 : CellsRel G I w cs vs) (h2 : CellsRel G I w ys us) (hfit : o + ys.length ≤ cs.length) (hs : vs'.size = cs.length)
    (he : ∀ j, j < cs.length → vs'.getD j undef = if o ≤ j ∧ j < o + ys.length then us.getD (j - o) undef else vs.getD j undef) : CellsRel G I w (cs.take o ++ ys ++ cs.drop (o + ys.length)) vs' := by
  refine ⟨by rw [hs]; simp; omega, fun j z hz => ?_⟩
  rw [List.append_assoc, List.getElem?_append] at hz
  split at hz
  · rename_i hj
    rw [List.length_take] at hj
    rw [List.getElem?_take] at hz
    split at hz
    · rename_i hjo
      rw [he j (by omega), if_neg (by omega)]
      exact h1.2 j z hz
    · cases hz
  · rename_i hj
    rw [List.length_take, Nat.min_eq_left (by omega)] at hj hz
    rw [List.getElem?_append] at hz
    split at hz
    · rename_i hj2
      rw [he j (by omega), if_pos (by omega)]
      exact h2.2 _ z hz
    · rename_i hj2
      rw [List.getElem?_drop] at hz
      have e0 : o + ys.length + (j - o - ys.length) = j := by omega
      rw [e0] at hz
      have hlt := (List.getElem?_eq_some_iff.1 hz).1
      rw [he j hlt, if_neg (by omega)]
      exact h1.2 j z hz
theorem fold_set (o : Nat) : ∀ (l : List Value) (k : Nat) (cs : Array Value), ((l.zipIdx k).foldl (fun cs (p : Value × Nat) => cs.setIfInBounds (o + p.2) p.1) cs).size = cs.size ∧
    ∀ j, j < cs.size → ((l.zipIdx k).foldl (fun cs (p : Value × Nat) => cs.setIfInBounds (o + p.2) p.1) cs).getD j undef = if o + k ≤ j ∧ j < o + k + l.length then l.getD (j - (o + k)) undef else cs.getD j undef
  | [], k, cs => ⟨rfl, fun j hj => by rw [if_neg (by simp only [List.length_nil]; omega)]; rfl⟩
  | v :: l, k, cs => by
    obtain ⟨h1, h2⟩ := fold_set o l (k + 1) (cs.setIfInBounds (o + k) v)
    simp only [List.zipIdx_cons, List.foldl_cons]
    refine ⟨by rw [h1]; simp, fun j hj => ?_⟩
    rw [h2 j (by simpa using hj)]
    by_cases e1 : o + (k + 1) ≤ j ∧ j < o + (k + 1) + l.length
    · rw [if_pos e1, if_pos (by simp; omega), show j - (o + k) = (j - (o + (k + 1))) + 1 by omega]
      simp
    · rw [if_neg e1]
      by_cases e2 : j = o + k
      · subst e2
        rw [if_pos (by simp)]
        simp [hj]
      · rw [if_neg (by simp; omega)]
        simp only [Array.getD_eq_getD_getElem?]
        rw [Array.getElem?_setIfInBounds_ne (by omega)]
def fillA (pl : List (Nat × Nat)) : List AV → List (Nat × AV) → Option (List AV)
  | cs, [] => some cs
  | cs, (i, x) :: r => match pl[i]? with
    | some (o, s) => if x.cells.length = s ∧ o + x.cells.length ≤ cs.length ∧ x.cells.all AV.leaf = true then fillA pl (cs.take o ++ x.cells ++ cs.drop (o + x.cells.length)) r else none
    | none => none
theorem fill_rel {pl : List (Nat × Nat)} {place : Nat → Option (Nat × Nat)} (hp : ∀ i, i < pl.length → place i = pl[i]?) {ρ : Operand → AV} {ev : Operand → Value} (hρ : ∀ x, VR G I w (ρ x) (ev x)) :
    ∀ (parts : List (Nat × Operand)) (cs cs' : List AV) (vs : Array Value), CellsRel G I w cs vs → fillA pl cs (parts.map fun p => (p.1, ρ p.2)) = some cs' → ∃ vs', Instr.fill place vs (parts.map fun p => (p.1, ev p.2)) = some vs' ∧ CellsRel G I w cs' vs'
  | [], cs, cs', vs, hc, he => by injection he with he; subst he; exact ⟨vs, rfl, hc⟩
  | (i, x) :: r, cs, cs', vs, hc, he => by
    simp only [List.map_cons, fillA] at he
    cases hpl : pl[i]? with
    | none => rw [hpl] at he; cases he
    | some os =>
      obtain ⟨o, s⟩ := os
      rw [hpl] at he
      simp only [] at he
      split at he
      · rename_i hk
        obtain ⟨hs, hfit, hl⟩ := hk
        obtain ⟨g1, g2⟩ := leaf_cells (hρ x) hl
        have hplace := hp i (List.getElem?_eq_some_iff.1 hpl).1
        rw [hpl] at hplace
        obtain ⟨f1, f2⟩ := fold_set o (ev x).cells.toList 0 vs
        have hrel := splice_rel (vs' := ((ev x).cells.toList.zipIdx 0).foldl (fun cs (p : Value × Nat) => cs.setIfInBounds (o + p.2) p.1) vs) hc ⟨g1, g2⟩ hfit (by rw [f1]; exact hc.1) (fun j hj => by
          rw [f2 j (by rw [hc.1]; exact hj)]
          simp only [Nat.add_zero, Array.length_toList, g1]
          split
          · simp
          · rfl)
        obtain ⟨vs', h1, h2⟩ := fill_rel hp hρ r _ cs' _ hrel he
        refine ⟨vs', ?_, h2⟩
        simp only [List.map_cons, Instr.fill, hplace]
        rw [if_neg (by rw [g1]; simp only [hc.1]; simp; omega)]
        rw [← h1]
        congr 1
        rw [← Array.foldl_toList, Array.toList_zipIdx]
      · cases he
def placesA (Γ : TEnv) (fl : List (TypeId × Nat)) : Option (List (Nat × Nat)) := fl.mapM fun p => (Γ p.1).map fun i => (p.2, i.size)
def flds (i : Option TI) : Option (List (TypeId × Nat)) :=
  match i with
  | some ⟨.strct fl, _, _, _, _⟩ => some fl
  | _ => none
def zvO (i : Option TI) : List AV :=
  match i with
  | some i => zc i.zv
  | none => []
def agO (cs : Option (List AV)) : Option Rs := cs.map fun cs => { r := .ag cs }
def buildA (pl : Option (List (Nat × Nat))) (zs : List AV) (parts : List (Nat × AV)) : Option Rs :=
  match pl with
  | some pl => if zs.all AV.leaf = true then agO (fillA pl zs parts) else none
  | none => none
def plO (Γ : TEnv) (fl : Option (List (TypeId × Nat))) : Option (List (Nat × Nat)) :=
  match fl with
  | some fl => placesA Γ fl
  | none => none
theorem places_of (hΓ : EOk P Γ) : ∀ (fs : List Field) (pl : List (Nat × Nat)), placesA Γ (fs.map fun f => (f.type, f.offset)) = some pl → fs.mapM (fun f => (P.info? f.type).map fun i => (f.offset, i.size)) = some pl
  | [], pl, h => h
  | f :: fs, pl, h => by
    simp only [placesA, List.map_cons, List.mapM_cons, Option.bind_eq_bind, Option.pure_def] at h
    cases hi : Γ f.type with
    | none => simp [hi] at h
    | some i =>
      cases hr : (fs.map fun f => (f.type, f.offset)).mapM (fun p => (Γ p.1).map fun i => (p.2, i.size)) with
      | none => simp [hi, hr] at h
      | some rest =>
        simp [hi, hr] at h
        subst h
        obtain ⟨j, hj, _, hs, _⟩ := (hΓ _ _ hi).inf
        have ih := places_of hΓ fs rest hr
        simp [List.mapM_cons, hj, hs, ih]
theorem so_build (hΓ : EOk P Γ) (hg : GS P cx G I w h F) {t : TypeId} {parts : Array (Nat × Operand)} {ρ : Operand → AV} {ev : Operand → Value} (hρ : ∀ x, VR G I w (ρ x) (ev x)) {R : Rs}
    (he : buildA (plO Γ (flds (Γ t))) (zvO (Γ t)) (parts.toList.map fun p => (p.1, ρ p.2)) = some R) : Does P (do let a ← Instr.build t (parts.map fun p => (p.1, ev p.2)); pure (Next.value a)) w (Aft P cx G I w h F N R) := by
  cases hi : Γ t with
  | none => rw [hi] at he; cases he
  | some i =>
    rw [hi] at he
    obtain ⟨kk, zv, s, b, q⟩ := i
    cases kk with
    | strct fl =>
      simp only [flds, plO, zvO] at he
      cases hpl : placesA Γ fl with
      | none => rw [hpl] at he; cases he
      | some pl =>
        rw [hpl] at he
        simp only [buildA] at he
        split at he
        · rename_i hl
          obtain ⟨cs', hf, rfl⟩ := Option.map_eq_some_iff.1 he
          obtain ⟨d, hd, hk⟩ := (hΓ t _ hi).und
          obtain ⟨fs, rfl, hfs⟩ := kd_strct hk
          obtain ⟨j, hj, hz, _⟩ := (hΓ t _ hi).inf
          have hz0 := zc_cells (G := G) (I := I) (w := w) hl
          obtain ⟨vs', h1, h2⟩ := fill_rel (place := (pl.toArray[·]?)) (fun i _ => by simp) hρ parts.toList _ cs' zv.cells hz0 hf
          rw [← hfs] at hpl
          have hbt : P.built t (parts.map fun p => (p.1, ev p.2)).toList = some vs' := by
            unfold Program.built
            simp only [hj, hd, hz, places_of hΓ fs.toList pl hpl]
            rw [← h1]
            simp
          have hleaf : ∀ x ∈ cs', x.leaf = true := fun x hx => by
            obtain ⟨j, hj, rfl⟩ := List.getElem_of_mem hx
            exact (h2.2 j _ (List.getElem?_eq_getElem hj)).1
          exact does_v (run_build w t _ vs' hbt) (Aft.same hg rfl rfl (.ag _ _ h2.1 hleaf (fun i x hx => (h2.2 i x hx).2)))
        · cases he
    | _ => cases he
def datL : List AV → Option (List D)
  | [] => some []
  | x :: r => match x.dat, datL r with
    | some d, some ds => some (d :: ds)
    | _, _ => none
theorem datL_get : ∀ {cs : List AV} {ds : List D}, datL cs = some ds → ds.length = cs.length ∧ ∀ (j : Nat) (d : D), ds[j]? = some d → ∃ x, cs[j]? = some x ∧ x.dat = some d
  | [], ds, h => by injection h with h; subst h; exact ⟨rfl, fun j d hd => by simp at hd⟩
  | x :: r, ds, h => by
    simp only [datL] at h
    cases hx : x.dat with
    | none => rw [hx] at h; cases h
    | some d0 =>
      cases hr : datL r with
      | none => rw [hx, hr] at h; cases h
      | some dr =>
        rw [hx, hr] at h
        injection h with h
        subst h
        obtain ⟨h1, h2⟩ := datL_get hr
        refine ⟨by simp [h1], fun j d hd => ?_⟩
        cases j with
        | zero => injection hd with hd; subst hd; exact ⟨x, rfl, hx⟩
        | succ j => exact h2 j d hd
def setParts (s n : Nat) : List (List D) → List (Nat × AV) → Option (List (List D))
  | rows, [] => some rows
  | rows, (i, x) :: r => match datL x.cells with
    | some d => if d.length = s ∧ i < n then setParts s n (rows.set i d) r else none
    | none => none
def litA (e : Option TypeId) (ei : Option TI) (n N : Nat) (parts : List (Nat × AV)) : Option Rs :=
  match e, ei with
  | some e, some ei => (match datL (zc ei.zv) with
    | some z => (match setParts ei.size n (List.replicate n z) parts with
      | some rows => if 0 < ei.size ∧ n * ei.size ≤ 16777216 ∧ z.length = ei.size then some { r := .ow N, up := [(N, .row e ei.size rows)], k := 1 } else none
      | none => none)
    | none => none)
  | _, _ => none
def RowsRel (I : Addr → Prop) (w : World) (s : Nat) (rows : List (List D)) (vs : Array Value) : Prop := vs.size = rows.length * s ∧ (∀ r ∈ rows, r.length = s) ∧ ∀ (i j : Nat) (r : List D) (x : D), rows[i]? = some r → r[j]? = some x → DR I w x (vs.getD (i * s + j) undef)
theorem dat_leaf {x : AV} {d : D} (h : x.dat = some d) : x.leaf = true := by cases x <;> first | rfl | cases h
theorem parts_rel {s n : Nat} {ρ : Operand → AV} {ev : Operand → Value} (hs0 : 0 < s) (hρ : ∀ x, VR G I w (ρ x) (ev x)) :
    ∀ (parts : List (Nat × Operand)) (rows rows' : List (List D)) (vs : Array Value), rows.length = n → RowsRel I w s rows vs → setParts s n rows (parts.map fun p => (p.1, ρ p.2)) = some rows' →
      ∃ vs', Instr.fill (fun i => some (i * s, s)) vs (parts.map fun p => (p.1, ev p.2)) = some vs' ∧ RowsRel I w s rows' vs' ∧ rows'.length = n
  | [], rows, rows', vs, hn, hr, he => by injection he with he; subst he; exact ⟨vs, rfl, hr, hn⟩
  | (i, x) :: r, rows, rows', vs, hn, hr, he => by
    simp only [List.map_cons, setParts] at he
    cases hd : datL (ρ x).cells with
    | none => rw [hd] at he; cases he
    | some d =>
      rw [hd] at he
      simp only [] at he
      split at he
      · rename_i hk
        obtain ⟨hds, hin⟩ := hk
        obtain ⟨d1, d2⟩ := datL_get hd
        have hl : (ρ x).cells.all AV.leaf = true := by
          rw [List.all_eq_true]
          intro y hy
          obtain ⟨j, hj, rfl⟩ := List.getElem_of_mem hy
          obtain ⟨y', hy', hdat⟩ := d2 j (d[j]'(by rw [d1]; exact hj)) (List.getElem?_eq_getElem _)
          rw [List.getElem?_eq_getElem hj] at hy'
          injection hy' with hy'
          rw [hy']
          exact dat_leaf hdat
        obtain ⟨g1, g2⟩ := leaf_cells (hρ x) hl
        obtain ⟨f1, f2⟩ := fold_set (i * s) (ev x).cells.toList 0 vs
        have hfit : i * s + s ≤ n * s := by rw [← Nat.succ_mul]; exact Nat.mul_le_mul_right _ hin
        have hrel : RowsRel I w s (rows.set i d) (((ev x).cells.toList.zipIdx 0).foldl (fun cs (p : Value × Nat) => cs.setIfInBounds (i * s + p.2) p.1) vs) := by
          refine ⟨by rw [f1, hr.1]; simp, fun r hr' => ?_, fun i' j r y h1 h2 => ?_⟩
          · rcases List.mem_or_eq_of_mem_set hr' with h | h
            · exact hr.2.1 r h
            · rw [h]; exact hds
          · rw [List.getElem?_set] at h1
            split at h1
            · rename_i hii
              subst hii
              split at h1
              · injection h1 with h1
                subst h1
                have hj : j < s := by rw [← hds]; exact (List.getElem?_eq_some_iff.1 h2).1
                rw [f2 _ (by rw [hr.1, hn]; omega), if_pos (by simp [g1, ← d1, hds]; omega)]
                obtain ⟨y', hy', hdat⟩ := d2 j y h2
                obtain ⟨q1, q2⟩ := g2 j y' hy'
                have e : (ev x).cells.toList.getD (i * s + j - (i * s + 0)) undef = (ev x).cells.getD j undef := by
                  rw [show i * s + j - (i * s + 0) = j by omega]
                  simp
                rw [e]
                exact q2.dat hdat
              · cases h1
            · rename_i hii
              have hj : j < s := by rw [← hr.2.1 r (List.mem_of_getElem? h1)]; exact (List.getElem?_eq_some_iff.1 h2).1
              have hi' : i' < n := by rw [← hn]; exact (List.getElem?_eq_some_iff.1 h1).1
              have hb : i' * s + s ≤ n * s := by rw [← Nat.succ_mul]; exact Nat.mul_le_mul_right _ hi'
              rw [f2 _ (by rw [hr.1, hn]; omega), if_neg (by
                simp only [Nat.add_zero, Array.length_toList, g1, ← d1, hds]
                intro hc
                rcases Nat.lt_or_gt_of_ne hii with h | h
                · have := Nat.mul_le_mul_right s (show i + 1 ≤ i' from h)
                  rw [Nat.succ_mul] at this
                  omega
                · have := Nat.mul_le_mul_right s (show i' + 1 ≤ i from h)
                  rw [Nat.succ_mul] at this
                  omega)]
              exact hr.2.2 i' j r y h1 h2
        obtain ⟨vs', k1, k2, k3⟩ := parts_rel hs0 hρ r (rows.set i d) rows' _ (by simp [hn]) hrel he
        refine ⟨vs', ?_, k2, k3⟩
        simp only [List.map_cons, Instr.fill]
        rw [if_neg (by rw [g1, ← d1, hds, hr.1, hn]; simp; omega)]
        rw [← k1]
        congr 1
        rw [← Array.foldl_toList, Array.toList_zipIdx]
      · cases he
theorem getD_dat {cs : List AV} {ds : List D} {vs : Array Value} (hc : CellsRel G I w cs vs) (hd : datL cs = some ds) {j : Nat} {x : D} (hx : ds[j]? = some x) : DR I w x (vs.getD j undef) := by
  obtain ⟨y, hy, hdat⟩ := (datL_get hd).2 j x hx
  exact (hc.2 j y hy).2.dat hdat
theorem so_lit (hΓ : EOk P Γ) (hg : GS P cx G I w h F) (hFN : F N) {t : TypeId} {n : Nat} {parts : Array (Nat × Operand)} {ρ : Operand → AV} {ev : Operand → Value} (hρ : ∀ x, VR G I w (ρ x) (ev x)) {R : Rs} {eo : Option TypeId} (heo : elOf (Γ t) = eo) {eio : Option TI} (heio : ∀ e, eo = some e → Γ e = eio)
    (he : litA eo eio n N (parts.toList.map fun p => (p.1, ρ p.2)) = some R) : Does P (do let a ← Instr.buildSlice t n (parts.map fun p => (p.1, ev p.2)); pure (Next.value a)) w (Aft P cx G I w h F N R) := by
  cases eo with
  | none => cases he
  | some e =>
    have hd := elOf_run hΓ heo
    have hei' := heio e rfl
    subst hei'
    cases hei : Γ e with
    | none => rw [hei] at he; cases he
    | some ei =>
      rw [hei] at he
      simp only [litA] at he
      cases hz : datL (zc ei.zv) with
      | none => rw [hz] at he; cases he
      | some z =>
        rw [hz] at he
        simp only [] at he
        cases hrows : setParts ei.size n (List.replicate n z) (parts.toList.map fun p => (p.1, ρ p.2)) with
        | none => rw [hrows] at he; cases he
        | some rows =>
          rw [hrows] at he
          simp only [] at he
          split at he
          · rename_i hk
            obtain ⟨hs0, h24, hzl⟩ := hk
            injection he with he
            subst he
            have hsz := (hΓ _ _ hei).size_run (w := w)
            have hzr := (hΓ _ _ hei).zero_run (w := w)
            have hzc : CellsRel G I w (zc ei.zv) ei.zv.cells := by
              refine zc_cells ?_
              rw [List.all_eq_true]
              intro y hy
              obtain ⟨j, hj, rfl⟩ := List.getElem_of_mem hy
              obtain ⟨y', hy', hdat⟩ := (datL_get hz).2 j (z[j]'(by rw [(datL_get hz).1]; exact hj)) (List.getElem?_eq_getElem _)
              rw [List.getElem?_eq_getElem hj] at hy'
              injection hy' with hy'
              rw [hy']
              exact dat_leaf hdat
            have hzs : ei.zv.cells.size = ei.size := by rw [hzc.1, ← (datL_get hz).1, hzl]
            let vs0 : Array Value := (Array.range (n * ei.size)).map (ei.zv.cells[· % ei.zv.cells.size]!)
            have h0 : RowsRel I w ei.size (List.replicate n z) vs0 := by
              refine ⟨by simp [vs0], fun r hr => by rw [List.eq_of_mem_replicate hr]; exact hzl, fun i j r x h1 h2 => ?_⟩
              rw [List.getElem?_replicate] at h1
              split at h1
              · rename_i hin
                injection h1 with h1
                subst h1
                have hj : j < ei.size := by rw [← hzl]; exact (List.getElem?_eq_some_iff.1 h2).1
                have hb : i * ei.size + ei.size ≤ n * ei.size := by rw [← Nat.succ_mul]; exact Nat.mul_le_mul_right _ hin
                have e : vs0.getD (i * ei.size + j) undef = ei.zv.cells.getD j undef := by
                  have hlt : i * ei.size + j < n * ei.size := by omega
                  have hm : (i * ei.size + j) % ei.size = j := by rw [Nat.mul_comm, Nat.mul_add_mod]; exact Nat.mod_eq_of_lt hj
                  simp only [vs0, Array.getD_eq_getD_getElem?, Array.getElem?_map, Array.getElem?_range, hzs]
                  rw [if_pos hlt]
                  simp [hm, hzs, hj]
                rw [e]
                exact getD_dat hzc hz h2
              · cases h1
            obtain ⟨vs', k1, k2, k3⟩ := parts_rel hs0 hρ parts.toList _ rows vs0 (by simp) h0 hrows
            obtain ⟨f1, f2, f3⟩ := hg.fresh
            have hG0 : G N = none := (hg.h.dom N hFN).2
            have hval : P.underlying t = some (.slice e) := hd
            refine does_v (v := .slice (some ⟨w.heap.size, 0, none⟩) n n) (w' := w.alloc (.cells vs' e (0, 0))) ?_ ?_
            · have hle : ¬ (n * ei.size > 2 ^ 24) := by omega
              have hk1 : Instr.fill (fun i => some (i * ei.size, ei.size)) ((Array.range (n * ei.size)).map (ei.zv.cells[· % ei.zv.cells.size]!)) (parts.map fun p => (p.1, ev p.2)).toList = some vs' := by
                rw [← k1]; simp [vs0]
              simp only [Instr.buildSlice, Sem.run_bind, run_underlying hd, Result.andThen_ok, hsz]
              by_cases hn0 : n * ei.size = 0
              · have e1 : ∀ z : Array Value, ((Array.range (n * ei.size)).map (z[· % z.size]!)) = #[] := fun z => by rw [hn0]; simp
                rw [e1] at hk1
                have e3 : Array.range 0 = #[] := Array.eq_empty_of_size_eq_zero (by simp)
                simp only [Array.toList_map] at hk1
                simp [hn0, newRow, hk1, e3]
              · simp [hle, hn0, hzr, newRow]
                simp at hk1
                simp [hk1]
            · have hm : Mono G I w (updG G N (.slice (some ⟨w.heap.size, 0, none⟩) n n)) I (w.alloc (.cells vs' e (0, 0))) := ⟨updG_mono hG0 _, fun a ha => ⟨ha, (only_alloc w _).cell (f2 a ha)⟩⟩
              have hsize : vs'.size = n * ei.size := by rw [k2.1, k3]
              have := hg.new hFN _ (only_alloc w (.cells vs' e (0, 0))) f1 f2 f3 (.row e ei.size rows) (.slice (some ⟨w.heap.size, 0, none⟩) n n)
                ⟨hs0, k2.2.1, _, vs'.toList, rfl, ⟨by simp [hsize, k3], .inr ⟨w.heap.size, n, vs', by rw [k3], Nat.zero_le _, Array.getElem?_push_size, by omega, by
                  have : n ≤ n * ei.size := Nat.le_mul_of_pos_right n hs0
                  unfold maxLen
                  omega, hsize, by rw [k3, List.take_of_length_le (by simp [hsize])]⟩⟩, fun i j r x h1 h2 => ⟨vs'.getD (i * ei.size + j) undef, by
                    have hi : i < n := by rw [← k3]; exact (List.getElem?_eq_some_iff.1 h1).1
                    have hj : j < ei.size := by rw [← k2.2.1 r (List.mem_of_getElem? h1)]; exact (List.getElem?_eq_some_iff.1 h2).1
                    have hb : i * ei.size + ei.size ≤ n * ei.size := by rw [← Nat.succ_mul]; exact Nat.mul_le_mul_right _ hi
                    have hlt : i * ei.size + j < vs'.size := by omega
                    simp [hlt], (k2.2.2 i j r x h1 h2).mono hm.2⟩⟩ (fun b hb => by injection hb with hb; exact Nat.le_of_eq hb)
              exact ⟨_, _, this.1, this.2, .ow N _ _ _ (updG_one _ _ _)⟩
          · cases he
def srcOf (h : Nat → HC) (y : AV) : Option (Option Nat × List (List D) × List Nat) :=
  match y with
  | .ls sz ys => some (some sz, ys, [])
  | .nl => some (none, [], [])
  | .ow id => (match h id with | .row e sz ys => some (some sz, ys, [id]) | _ => none)
  | _ => none
def appA (e : Option TypeId) (ei : Option TI) (h : Nat → HC) (N : Nat) (same : Bool) (x : AV) (src : Option (Option Nat × List (List D) × List Nat)) : Option Rs :=
  match e, ei, same, src with
  | some e, some ei, true, some (sy, ys, rd) =>
    (match x with
    | .nl => some { r := .ow N, up := [(N, .row e ei.size ys)], k := 1, rd := rd, side := 0 < ei.size ∧ ei.zv.cells.size = ei.size ∧ sy.getD ei.size = ei.size ∧ ys.length ≤ maxLen ∧ ys.length * ei.bytes ≤ 140737488355328 }
    | .ow t => (match h t with
      | .row e' sz xs => some { r := .ow N, up := [(t, .dead), (N, .row e' sz (xs ++ ys))], k := 1, rd := t :: rd, side := e' = e ∧ sz = ei.size ∧ ei.zv.cells.size = ei.size ∧ sy.getD ei.size = ei.size ∧ xs.length + ys.length ≤ maxLen ∧ (xs.length + ys.length) * ei.bytes ≤ 140737488355328 }
      | _ => none)
    | _ => none)
  | _, _, _, _ => none
theorem src_rel (hg : GS P cx G I w h F) {y : AV} {vy : Value} (hy : VR G I w y vy) {sy : Option Nat} {ys : List (List D)} {rd : List Nat} (he : srcOf h y = some (sy, ys, rd)) {s : Nat} (hs : sy.getD s = s) (hs0 : 0 < s) :
    ∃ A c news, vy = .slice A ys.length c ∧ (∀ r ∈ ys, r.length = s) ∧ (ys ≠ [] → ∃ a, A = some a ∧ (news : List Value).length = ys.length * s ∧ (∀ j u, news[j]? = some u → w.cell? (a.add j) = some u) ∧ (∀ u ∈ news, u.oneCell' = true) ∧
      ∀ (i j : Nat) (r : List D) (x : D), ys[i]? = some r → r[j]? = some x → ∃ u, news[i * s + j]? = some u ∧ DR I w x u) := by
  cases hy with
  | nl =>
    injection he with he
    injection he with _ he
    injection he with he _
    subst he
    exact ⟨none, 0, [], rfl, fun r hr => by simp at hr, fun h => (h rfl).elim⟩
  | ls sz xs v hv =>
    injection he with he
    injection he with e1 he
    injection he with he _
    subst he
    subst e1
    simp only [Option.getD_some] at hs
    subst hs
    cases hv with
    | l _ _ a A c val hc hss hA hsp hh hdd =>
      have hnews : ∀ k, ((List.range (xs.length * sz)).map fun k => val (k / sz) (k % sz))[k]? = if k < xs.length * sz then some (val (k / sz) (k % sz)) else none := fun k => by
        rw [List.getElem?_map]
        by_cases hk : k < xs.length * sz
        · rw [List.getElem?_range hk, if_pos hk]; rfl
        · rw [List.getElem?_eq_none (by simp; omega), if_neg hk]; rfl
      have hat : ∀ k, k < xs.length * sz → ∃ r x, xs[k / sz]? = some r ∧ r[k % sz]? = some x := fun k hk => by
        have h1 : k / sz < xs.length := (Nat.div_lt_iff_lt_mul hs0).2 hk
        have h2 : k % sz < (xs[k / sz]).length := by rw [hss _ (List.getElem_mem h1)]; exact Nat.mod_lt _ hs0
        exact ⟨_, _, List.getElem?_eq_getElem h1, List.getElem?_eq_getElem h2⟩
      have hdm : ∀ k, k / sz * sz + k % sz = k := fun k => by rw [Nat.mul_comm]; exact Nat.div_add_mod k sz
      refine ⟨A, c, (List.range (xs.length * sz)).map fun k => val (k / sz) (k % sz), rfl, hss, fun hne => ⟨a, hA hne, by simp, fun j u hj => ?_, fun u hu => ?_, fun i j r x h1 h2 => ?_⟩⟩
      · rw [hnews] at hj
        split at hj
        · rename_i hlt
          injection hj with hj
          subst hj
          obtain ⟨r, x, h1, h2⟩ := hat j hlt
          have := (hh _ _ r x h1 h2).2
          rwa [hdm] at this
        · cases hj
      · obtain ⟨j, hj, rfl⟩ := List.getElem_of_mem hu
        have h0 := hnews j
        rw [List.getElem?_eq_getElem hj] at h0
        split at h0
        · rename_i hlt
          injection h0 with h0
          rw [h0]
          obtain ⟨r, x, h1, h2⟩ := hat j hlt
          exact (hdd _ _ r x h1 h2).one
        · cases h0
      · have hj : j < sz := by rw [← hss r (List.mem_of_getElem? h1)]; exact (List.getElem?_eq_some_iff.1 h2).1
        have hi : i < xs.length := (List.getElem?_eq_some_iff.1 h1).1
        have hb : i * sz + sz ≤ xs.length * sz := by rw [← Nat.succ_mul]; exact Nat.mul_le_mul_right _ hi
        have e1 : (i * sz + j) / sz = i := by rw [Nat.mul_comm, Nat.mul_add_div hs0, Nat.div_eq_of_lt hj]; rfl
        have e2 : (i * sz + j) % sz = j := by rw [Nat.mul_comm, Nat.mul_add_mod, Nat.mod_eq_of_lt hj]
        refine ⟨val i j, ?_, hdd i j r x h1 h2⟩
        rw [hnews, if_pos (by omega), e1, e2]
  | ow id A m c hG =>
    simp only [srcOf] at he
    cases hh : h id with
    | row e sz xs =>
      rw [hh] at he
      injection he with he
      injection he with e1 he
      injection he with he _
      subst he
      subst e1
      simp only [Option.getD_some] at hs
      subst hs
      have hc := hg.h.cr id
      rw [hh, hG] at hc
      obtain ⟨_, hlen, v, vs, hgv, ho, hcell⟩ := hc
      injection hgv with hgv
      subst hgv
      have ho' := ho
      obtain ⟨hvl, ⟨hv, hn0⟩ | ⟨g', cap, cur, hv, _, _⟩⟩ := ho
      · cases hv
        have hx0 : xs = [] := List.length_eq_zero_iff.1 hn0
        subst hx0
        exact ⟨none, 0, [], rfl, hlen, fun h => (h rfl).elim⟩
      · cases hv
        have hone : ∀ k, k < xs.length * sz → ∃ u x, vs[k]? = some u ∧ DR I w x u := fun k hk => by
          have h1 : k / sz < xs.length := (Nat.div_lt_iff_lt_mul hs0).2 hk
          have h2 : k % sz < (xs[k / sz]).length := by rw [hlen _ (List.getElem_mem h1)]; exact Nat.mod_lt _ hs0
          obtain ⟨u, hu, hd⟩ := hcell _ _ _ _ (List.getElem?_eq_getElem h1) (List.getElem?_eq_getElem h2)
          rw [show k / sz * sz + k % sz = k by rw [Nat.mul_comm]; exact Nat.div_add_mod k sz] at hu
          exact ⟨u, _, hu, hd⟩
        refine ⟨some ⟨g', 0, none⟩, _, vs, rfl, hlen, fun hne => ⟨_, rfl, hvl, fun j u hj => by rw [add_lit, Nat.zero_add]; exact ownsRow_cell ho' hj, fun u hu => ?_, hcell⟩⟩
        obtain ⟨j, hj, rfl⟩ := List.getElem_of_mem hu
        obtain ⟨u, x, h1, h2⟩ := hone j (by rw [← hvl]; exact hj)
        rw [List.getElem?_eq_getElem hj] at h1
        injection h1 with h1
        rw [h1]
        exact h2.one
    | _ => rw [hh] at he; cases he
  | _ => cases he
theorem app_rows {s : Nat} {xs ys : List (List D)} {vs news : List Value} (hvl : vs.length = xs.length * s) (hxs : ∀ r ∈ xs, r.length = s) (hx : ∀ (i j : Nat) (r : List D) (x : D), xs[i]? = some r → r[j]? = some x → ∃ u, vs[i * s + j]? = some u ∧ DR I w x u)
    (hy : ∀ (i j : Nat) (r : List D) (x : D), ys[i]? = some r → r[j]? = some x → ∃ u, news[i * s + j]? = some u ∧ DR I w x u) :
    ∀ (i j : Nat) (r : List D) (x : D), (xs ++ ys)[i]? = some r → r[j]? = some x → ∃ u, (vs ++ news)[i * s + j]? = some u ∧ DR I w x u := by
  intro i j r x h1 h2
  rw [List.getElem?_append] at h1
  split at h1
  · rename_i hi
    obtain ⟨u, hu, hd⟩ := hx i j r x h1 h2
    exact ⟨u, by rw [List.getElem?_append_left (List.getElem?_eq_some_iff.1 hu).1]; exact hu, hd⟩
  · rename_i hi
    obtain ⟨u, hu, hd⟩ := hy _ j r x h1 h2
    have e : xs.length * s ≤ i * s := Nat.mul_le_mul_right _ (by omega)
    refine ⟨u, ?_, hd⟩
    rw [List.getElem?_append_right (by rw [hvl]; omega), hvl, ← hu]
    congr 1
    rw [Nat.sub_mul]
    omega
theorem append_run {t ty e : TypeId} {ei : TI} (hd : P.underlying t = some (.slice e)) (hei : TOk P e ei) (hs0 : 0 < ei.size) (hzs : ei.zv.cells.size = ei.size) {v : Value} {n : Nat} {vs : List Value} (ho : w.ownsRow 0 e ei.size v n vs) {A : Option Addr} {m c : Nat} {news : List Value}
    (hm : m = 0 ∨ ∃ a, A = some a ∧ news.length = m * ei.size ∧ (∀ j u, news[j]? = some u → w.cell? (a.add j) = some u) ∧ ∀ u ∈ news, u.oneCell' = true) (h63 : n + m ≤ maxLen) (hb : (n + m) * ei.bytes ≤ 140737488355328) :
    ∃ v' w' vs', (Builtin.append_ #[t, t] ty #[v, .slice A m c]).run P w = .ok v' w' ∧ w'.ownsRow 0 e ei.size v' (n + m) vs' ∧ (vs' = vs ∧ m = 0 ∨ vs' = vs ++ news) ∧ Only (fun k => some k = v.ownBlock ∨ w.heap.size ≤ k) w w' ∧ (∀ k, v'.ownBlock = some k → some k = v.ownBlock ∨ w.heap.size ≤ k) ∧ (∃ B q c, v' = .slice B q c) := by
  obtain ⟨j, hj, hz, hsj, hbj⟩ := hei.inf
  by_cases hm0 : m = 0
  · subst hm0
    have hle : ∃ B k cp, v = .slice B k cp ∧ k ≤ cp := by
      obtain ⟨_, ⟨hv, _⟩ | ⟨g', cap, cur, hv, _, _, hc, _⟩⟩ := ho
      · exact ⟨_, _, _, hv, Nat.le_refl _⟩
      · exact ⟨_, _, _, hv, hc⟩
    obtain ⟨B, k, cp, rfl, hle⟩ := hle
    refine ⟨_, w, vs, ?_, ho, .inl ⟨rfl, rfl⟩, ⟨rfl, rfl, rfl, Nat.le_refl _, fun _ _ => rfl⟩, fun k hk => .inl hk.symm, ⟨_, _, _, rfl⟩⟩
    have hf : (Builtin.firstCells ei.size 0 (.slice A 0 c)).run P w = .ok #[] w := by
      cases A with
      | none => simp [Builtin.firstCells]
      | some a => exact run_firstCells_some (P := P) w ei.size 0 a 0 c [] (by simp) (fun j u hj => by simp at hj)
    have hd' : (underlying t).run P w = .ok (.slice e) w := run_underlying hd w
    have hsz := hei.size_run (w := w)
    cases B <;> simp [Builtin.append_, hd', hsz, Builtin.lenOf, hle, hf, storeCells]
  · rcases hm with hm | ⟨a, rfl, hnl, hnc, hn1⟩
    · exact (hm0 hm).elim
    · obtain ⟨v', w', h1, h2, h3, h4, h5⟩ := run_append_own_at (P := P) w 0 t ty e j ei.zv ei.size ei.bytes hd hj hz hsj hbj hzs hs0 v n vs ho a m c news hnl hnc hn1 h63 hb (Nat.zero_le _)
      refine ⟨v', w', _, h1, h2, .inr rfl, ⟨h3.os, h3.tape, h3.output, h3.size, fun k hk => ?_⟩, fun k hk => ?_, ?_⟩
      · have hlt : k < w.heap.size := by
          rcases Nat.lt_or_ge k w.heap.size with h | h
          · exact h
          · exact (hk (.inr h)).elim
        exact h3.block k hlt (fun e => hk (.inl e))
      · rcases h5 with h5 | h5
        · exact .inl (by rw [← hk, h5])
        · rw [h5] at hk
          injection hk with hk
          exact .inr (Nat.le_of_eq hk)
      · obtain ⟨_, ⟨hv, _⟩ | ⟨g', cap, cur, hv, _⟩⟩ := h2
        · exact ⟨_, _, _, hv⟩
        · exact ⟨_, _, _, hv⟩
theorem ownBlock_blkV (v : Value) (k : Nat) (B : Option Addr) (q c : Nat) (hv : v = .slice B q c) : blkV (some v) = some k ↔ v.ownBlock = some k := by
  subst hv
  cases B <;> rfl
theorem so_append (hΓ : EOk P Γ) (hg : GS P cx G I w h F) (hFN : F N) {t t2 ty : TypeId} {x y : AV} {vx vy : Value} {R : Rs} {eo : Option TypeId} (heo : elOf (Γ t) = eo) {eio : Option TI} (heio : ∀ e, eo = some e → Γ e = eio) (hx : VR G I w x vx) (hy : VR G I w y vy)
    (he : appA eo eio h N (decide (t2 = t)) x (srcOf h y) = some R) (hs : R.side) : Does P (do let a ← Builtin.append_ #[t, t2] ty #[vx, vy]; pure (Next.value a)) w (Aft P cx G I w h F N R) := by
  cases eo with
  | none => cases he
  | some e =>
    have hd := elOf_run hΓ heo
    have hei' := heio e rfl
    subst hei'
    cases hei : Γ e with
    | none => rw [hei] at he; cases he
    | some ei =>
      rw [hei] at he
      by_cases htt : t2 = t
      · subst htt
        rw [decide_eq_true rfl] at he
        cases hsrc : srcOf h y with
        | none => rw [hsrc] at he; cases he
        | some q =>
          obtain ⟨sy, ys, rd⟩ := q
          rw [hsrc] at he
          simp only [appA] at he
          have hG0 : G N = none := (hg.h.dom N hFN).2
          obtain ⟨f1, f2, f3⟩ := hg.fresh
          cases hx with
          | nl =>
            simp only [] at he
            injection he with he
            subst he
            obtain ⟨hs0, hzs, hsy, h63, hb⟩ := hs
            obtain ⟨A, c, news, rfl, hrl, hne⟩ := src_rel hg hy hsrc hsy hs0
            have ho0 : w.ownsRow 0 e ei.size (.slice none 0 0) 0 [] := ⟨by simp, .inl ⟨rfl, rfl⟩⟩
            have hm : ys.length = 0 ∨ ∃ a, A = some a ∧ news.length = ys.length * ei.size ∧ (∀ j u, news[j]? = some u → w.cell? (a.add j) = some u) ∧ ∀ u ∈ news, u.oneCell' = true := by
              by_cases h0 : ys = []
              · exact .inl (by rw [h0]; rfl)
              · obtain ⟨a, q1, q2, q3, q4, _⟩ := hne h0
                exact .inr ⟨a, q1, q2, q3, q4⟩
            obtain ⟨v', w', vs', r1, r2, r3, r4, r5, B, q, c', rfl⟩ := append_run (ty := ty) (c := c) hd (hΓ _ _ hei) hs0 hzs ho0 hm (by omega) (by simpa using hb)
            rw [Nat.zero_add] at r2
            have hown : Only (fun k => w.heap.size ≤ k) w w' := ⟨r4.os, r4.tape, r4.output, r4.size, fun k hk => r4.block k (fun e => by rcases e with e | e; cases e; exact hk e)⟩
            have hmono : Mono G I w (updG G N (.slice B q c')) I w' := ⟨updG_mono hG0 _, fun a ha => ⟨ha, hown.cell (f2 a ha)⟩⟩
            have hcell : ∀ (i j : Nat) (r : List D) (x : D), ys[i]? = some r → r[j]? = some x → ∃ u, vs'[i * ei.size + j]? = some u ∧ DR I w x u := by
              intro i j r x h1 h2
              have h0 : ys ≠ [] := fun e => by rw [e] at h1; simp at h1
              obtain ⟨a, _, _, _, _, q5⟩ := hne h0
              rcases r3 with ⟨_, r3⟩ | r3
              · exact (h0 (List.length_eq_zero_iff.1 r3)).elim
              · rw [r3]; exact q5 i j r x h1 h2
            have := hg.new hFN _ hown f1 f2 f3 (.row e ei.size ys) (.slice B q c') ⟨hs0, hrl, _, vs', rfl, r2, fun i j r x h1 h2 => by
              obtain ⟨u, hu, hdr⟩ := hcell i j r x h1 h2
              exact ⟨u, hu, hdr.mono hmono.2⟩⟩ (fun b hb => by
                rcases r5 b ((ownBlock_blkV _ b _ _ _ rfl).1 hb) with e | e
                · cases e
                · exact e)
            exact does_v r1 ⟨_, _, this.1, this.2, .ow N _ _ _ (updG_one _ _ _)⟩
          | ow id A0 m0 c0 hG =>
            simp only [] at he
            cases hh : h id with
            | row e' sz xs =>
              rw [hh] at he
              injection he with he
              subst he
              obtain ⟨rfl, rfl, hzs, hsy, h63, hb⟩ := hs
              have hc := hg.h.cr id
              rw [hh, hG] at hc
              obtain ⟨hs0, hlen, v, vs, hgv, ho, hcellx⟩ := hc
              injection hgv with hgv
              subst hgv
              obtain ⟨A, c, news, rfl, hrl, hne⟩ := src_rel hg hy hsrc hsy hs0
              have hm : ys.length = 0 ∨ ∃ a, A = some a ∧ news.length = ys.length * ei.size ∧ (∀ j u, news[j]? = some u → w.cell? (a.add j) = some u) ∧ ∀ u ∈ news, u.oneCell' = true := by
                by_cases h0 : ys = []
                · exact .inl (by rw [h0]; rfl)
                · obtain ⟨a, q1, q2, q3, q4, _⟩ := hne h0
                  exact .inr ⟨a, q1, q2, q3, q4⟩
              obtain ⟨v', w', vs', r1, r2, r3, r4, r5, B, q, c', rfl⟩ := append_run (ty := ty) (c := c) hd (hΓ _ _ hei) hs0 hzs ho hm h63 hb
              have hidN : id ≠ N := fun e => by rw [e, hG0] at hG; cases hG
              have hblk : ∀ k, some k = (Value.slice A0 m0 c0).ownBlock → blk (h id) (G id) = some k := fun k hk => by
                rw [hh, hG]
                exact (ownBlock_blkV _ k _ _ _ rfl).2 hk.symm
              have hI : ∀ a, I a → ¬ (some a.block = (Value.slice A0 m0 c0).ownBlock ∨ w.heap.size ≤ a.block) := fun a ha e => by
                rcases e with e | e
                · exact (hg.h.imm a ha).2.2 id (hblk _ e)
                · exact f2 a ha e
              have hmono : Mono G I w (updG G N (.slice B q c')) I w' := ⟨updG_mono hG0 _, fun a ha => ⟨ha, r4.cell (hI a ha)⟩⟩
              have hl2 : (xs ++ ys).length = xs.length + ys.length := List.length_append
              have hcell : ∀ (i j : Nat) (r : List D) (x : D), (xs ++ ys)[i]? = some r → r[j]? = some x → ∃ u, vs'[i * ei.size + j]? = some u ∧ DR I w x u := by
                rcases r3 with ⟨r3, r3'⟩ | r3
                · have hy0 : ys = [] := List.length_eq_zero_iff.1 r3'
                  rw [hy0, List.append_nil, r3]
                  exact hcellx
                · rw [r3]
                  by_cases h0 : ys = []
                  · rw [h0, List.append_nil]
                    intro i j r x h1 h2
                    obtain ⟨u, hu, hdr⟩ := hcellx i j r x h1 h2
                    exact ⟨u, by rw [List.getElem?_append_left (List.getElem?_eq_some_iff.1 hu).1]; exact hu, hdr⟩
                  · obtain ⟨a, _, _, _, _, q5⟩ := hne h0
                    exact app_rows ho.1 hlen hcellx q5
              have hupd : ∀ s, s ≠ N → s ≠ id → upds h [(id, .dead), (N, .row e' ei.size (xs ++ ys))] s = h s := fun s h1 h2 => by
                unfold upds lk lk
                rw [if_neg (fun e => h2 e.symm), if_neg (fun e => h1 e.symm)]
                rfl
              have hupN : upds h [(id, .dead), (N, .row e' ei.size (xs ++ ys))] N = .row e' ei.size (xs ++ ys) := by
                unfold upds lk lk
                rw [if_neg hidN, if_pos rfl]
              have hupi : upds h [(id, .dead), (N, .row e' ei.size (xs ++ ys))] id = .dead := by
                unfold upds lk
                rw [if_pos rfl]
              have := hg.upd (H' := upds h [(id, .dead), (N, .row e' ei.size (xs ++ ys))]) (G' := updG G N (.slice B q c')) (F' := Fr F N 1) _ N r4 (fun b hb => by
                  rcases hb with hb | hb
                  · exact hg.c.live id b (hblk b hb)
                  · exact f1 b hb) hI hmono.1 (by
                rw [hupN, updG_one]
                refine ⟨hs0, fun r hr => ?_, _, vs', rfl, by rw [hl2]; exact r2, fun i j r x h1 h2 => ?_⟩
                · rcases List.mem_append.1 hr with h | h
                  · exact hlen r h
                  · exact hrl r h
                · obtain ⟨u, hu, hdr⟩ := hcell i j r x h1 h2
                  exact ⟨u, hu, hdr.mono hmono.2⟩) (fun b hb => by
                rw [hupN, updG_one] at hb
                exact r5 b ((ownBlock_blkV _ b _ _ _ rfl).1 hb)) (fun s hsN => by
                by_cases hsi : s = id
                · subst hsi; exact .inl hupi
                · refine .inr ⟨hupd s hsN hsi, fun b hb e => ?_⟩
                  rcases e with e | e
                  · exact hg.h.sep s id b hsi hb (hblk b e)
                  · exact f3 s b hb e) (fun s hsN => by
                have h1 : s ≠ N := fun e => hsN.2 ⟨Nat.le_of_eq e.symm, by omega⟩
                have h2 : s ≠ id := fun e => by
                  have := (hg.h.dom s hsN.1).2
                  rw [e, hG] at this
                  cases this
                rw [hupd s h1 h2, updG_ne _ _ _ h1]
                exact hg.h.dom s hsN.1)
              exact does_v r1 ⟨_, _, this.1, this.2, .ow N _ _ _ (updG_one _ _ _)⟩
            | _ => rw [hh] at he; cases he
          | _ => cases he
      · rw [decide_eq_false htt] at he
        cases he
end
end Go.Proofs.YtcbpghpfdjfddaaE
