/- soundserviceref06.Sorted: the contract in the printer's form. -/
import Derived.Test.YtglikjpnlgciiaaDoorQx0
import Derived.WalkKit
import Derived.LoopTactic
import Derived.Lib.Hide
import Derived.ChangeAlike
import Derived.Below
namespace Go.Proofs.YtglikjpnlgciiaaDoor.Q
open Go Go.RowKit Go.Proofs.YtglikjpnlgciiaaDoorW.PrintWords Go.Proofs.YtglikjpnlgciiaaDoorW.PrintLast Go.Proofs.YtglikjpnlgciiaaDoorW.PrintMore
set_option linter.unusedVariables false
set_option linter.unusedSimpArgs false
/-- How far a number goes down from place k on. -/
def kpos (m : List Int) (p : Int) : Nat → Nat
  | 0 => 0
  | k + 1 => if m.getD k 0 > p then kpos m p k else k + 1
theorem kpos_le (m : List Int) (p : Int) : ∀ k, kpos m p k ≤ k
  | 0 => Nat.le_refl _
  | k + 1 => by
    rw [kpos]
    split
    · exact Nat.le_succ_of_le (kpos_le m p k)
    · exact Nat.le_refl _
def put1 (m : List Int) (p : Int) : List Int := [] ++ m.take (kpos m p m.length) ++ [p] ++ m.drop (kpos m p m.length)
def rsrt (l : List Int) : List Int := l.foldl put1 []
theorem rsrt_snoc (l : List Int) (p : Int) : rsrt (l ++ [p]) = put1 (rsrt l) p := by unfold rsrt; rw [List.foldl_append]; rfl
theorem put1_len (m : List Int) (p : Int) : (put1 m p).length = m.length + 1 := by
  have := kpos_le m p m.length
  unfold put1
  simp only [List.nil_append, List.length_append, List.length_take, List.length_drop, List.length_singleton]; omega
def soundserviceref06_Sorted.f (l : List Int) : Option (List Int) := if l.length ≤ 1000000 then some (rsrt l) else none
theorem one_cell {w : World} {g : Nat} {p : Int} (h : w.heap[g]? = some (.cells #[.int .i64 p] 3 (0, 0))) : Kd.C (Kd.int .i64) w (some ⟨g, 0, none⟩) 1 [p] := by
  have h2 : w.ownsRow 0 3 1 (.slice (some ⟨g, 0, none⟩) 1 1) ([p] : List Int).length (([p] : List Int).map (Value.int .i64)) := ⟨rfl, .inr ⟨g, 1, #[.int .i64 p], rfl, Nat.zero_le _, h, Nat.le_refl _, by decide, rfl, rfl⟩⟩
  have ho : Kd.R (Kd.int .i64) 3 w 0 (fun _ => True) (.slice (some ⟨g, 0, none⟩) 1 1) [p] := Kd.R_of_own (enc := Value.int .i64) (h1 := fun _ => rfl) h2 (fun _ _ => trivial)
  exact (Kd.R_reads' ho).2.2
theorem alloc_at (W : World) (o : Obj) : (W.alloc o).heap[W.heap.size]? = some o := Array.getElem?_push_size
theorem alloc_cell (w : World) (p : Int) : Kd.C (Kd.int .i64) (w.alloc (.cells #[.int .i64 p] 3 (0, 0))) (some ⟨w.heap.size, 0, none⟩) 1 [p] := one_cell (alloc_at _ _)
theorem fst_ {w : World} {base : Nat} {ok : Nat → Prop} {A : Option Addr} {c : Nat} {m : List Int} (h : Kd.R (Kd.int .i64) 3 w base ok (.slice A m.length c) m) {j : Nat} (hj : j ≤ m.length) : Kd.C (Kd.int .i64) w A j (m.take j) := by
  have := (Kd.R_reads' (Kd.R_take h hj)).2.2
  rwa [List.length_take, Nat.min_eq_left hj] at this
theorem snd_ {w : World} {base : Nat} {ok : Nat → Prop} {A : Option Addr} {c : Nat} {m : List Int} (h : Kd.R (Kd.int .i64) 3 w base ok (.slice A m.length c) m) {j : Nat} (hj : j ≤ m.length) : Kd.C (Kd.int .i64) w (if c = j then A else A.map (·.add (j * 1))) (m.length - j) (m.drop j) := by
  obtain ⟨_, h2, h3⟩ := Kd.R_reads' h
  have := Kd.C_drop h3 hj h2
  rwa [List.length_drop] at this
def Two (w W : World) (v : Value) (m : List Int) (p : Int) (j : Nat) (s : Value × Nat) (w' : World) : Prop :=
  Kd.R (Kd.int .i64) 3 w' w.heap.size (fun k_ => W.heap.size ≤ k_) s.1 ([] ++ m.take j) ∧ Kd.R (Kd.int .i64) 3 w' w.heap.size (fun k_ => k_ < W.heap.size) v m ∧ Below w.heap.size w w' ∧ W.heap.size ≤ w'.heap.size ∧ Kd.C (Kd.int .i64) w' (some ⟨s.2, 0, none⟩) 1 [p]
set_option maxHeartbeats 4000000 in
set_option maxRecDepth 100000 in
theorem soundserviceref06_Sorted.walk (A0 : Option Addr) (c0 : Nat) (l : List Int) (w : World) (hr0 : Kd.C (Kd.int .i64) w A0 l.length l) (hc0 : l.length ≤ c0) (hlen : l.length ≤ 1000000) :
    Calls Tryd.prog 19 #[.slice A0 l.length c0] w fun e w' => ∃ v0_ : Value, e = .returned v0_ ∧ Kd.R (Kd.int .i64) 3 w' w.heap.size (fun _ => True) v0_ (rsrt l) ∧ Below w.heap.size w w' := by
  have HR0 := Lib.hid hr0
  obtain ⟨i3, hi3, _, hsz3, _⟩ := info_parts info3
  have HI := Lib.hid (And.intro hi3 hsz3)
  clear hr0 hi3 hsz3
  go_enter Tryd.func19, Tryd.ntmps19
  go_wp2
  go_loopw [9, 3] (fun t v wr => ∃ (k : Nat) (m : List Int), k ≤ l.length ∧ t = .int .i64 k ∧ Aside0 (m = rsrt (l.take k)) ∧ Aside0 (m.length = k) ∧ Aside0 (Kd.R (Kd.int .i64) 3 wr w.heap.size (fun _ => True) v m) ∧ Aside0 (Below w.heap.size w wr)) (fun t _ _ => l.length - (intOf t).toNat)
  case atStart => exact ⟨0, [], by omega, rfl, ⟨rfl⟩, ⟨rfl⟩, ⟨Kd.R_nil _ _ _ _ _⟩, ⟨Below.refl _ _⟩⟩
  case round =>
    obtain ⟨k, m, hk, rfl, hm, hmk, hR, hB⟩ := hrel
    by_cases hkl : k < l.length
    · obtain ⟨ad, rfl, hcell⟩ := Kd.at_int (Kd.C_below HR0.out hB.out) (k : Int) (by omega) (by omega)
      rw [Int.toNat_natCast] at hcell
      have hrd : rd l (k : Int) = l[k] := by unfold rd; simp [hkl]
      have htk : rsrt (l.take (k + 1)) = put1 (rsrt (l.take k)) l[k] := by rw [List.take_succ_eq_append_getElem hkl, rsrt_snoc]
      have HT := Lib.hid htk
      rw [hrd] at hcell
      obtain ⟨A, c, rfl⟩ := Kd.R_slice hR.out
      obtain ⟨_, hmc, _⟩ := Kd.R_reads' hR.out
      generalize l[k] = p at hcell HT
      clear htk hrd
      have q0 : (0 : Int) ≤ (k : Int) := by omega
      have q1 : (k : Int) < (l.length : Int) := by omega
      have q2 : wrap64 ((k : Int) + 1) = ((k + 1 : Nat) : Int) := by unfold wrap64; omega
      have hmm : m.length ≤ 1000000 := by rw [hmk.out]; omega
      go_wp2
      go_loop [6] (fun t => ∃ j : Nat, j ≤ m.length ∧ t = .int .i64 j ∧ Aside0 (kpos m p m.length = kpos m p j)) (fun t => (intOf t).toNat)
      case atStart => exact ⟨m.length, by omega, rfl, ⟨rfl⟩⟩
      case round =>
        obtain ⟨j, hj, rfl, hkp⟩ := hrel
        by_cases hgo : 0 < j ∧ m.getD (j - 1) 0 > p
        · obtain ⟨i, rfl⟩ : ∃ i, j = i + 1 := ⟨j - 1, by omega⟩
          obtain ⟨ad2, rfl, hcell2⟩ := Kd.at_int (Kd.R_reads' hR.out).2.2 (i : Int) (by omega) (by omega)
          rw [Int.toNat_natCast] at hcell2
          have hrd2 : rd m (i : Int) = m.getD i 0 := by unfold rd; rw [Int.toNat_natCast]
          rw [hrd2] at hcell2
          have hg2 : m.getD i 0 > p := by have := hgo.2; rwa [Nat.add_sub_cancel] at this
          have hkp2 : kpos m p (i + 1) = kpos m p i := by rw [kpos, if_pos hg2]
          have HK := Lib.hid (hkp.out.trans hkp2)
          generalize m.getD i 0 = x at hcell2 hg2
          have q3 : wrap64 (((i + 1 : Nat) : Int) - 1) = (i : Int) := by unfold wrap64; omega
          have q4 : (0 : Int) ≤ (i : Int) := by omega
          have q5 : (i : Int) < (m.length : Int) := by omega
          have q6 : ((i + 1 : Nat) : Int) > 0 := by omega
          clear hgo hkp2 hrd2
          go_wp2
          go_round
          case rel => exact ⟨i, by omega, by first | rfl | simp, ⟨HK.out⟩⟩
          case measure => simp only [intOf]; omega
        · have hkj : kpos m p j = j := by
            cases j with
            | zero => rfl
            | succ i => rw [kpos, if_neg (show ¬ m.getD i 0 > p from fun h => hgo ⟨by omega, by rw [Nat.add_sub_cancel]; exact h⟩)]
          have HK := Lib.hid (hkp.out.trans hkj)
          have HM := Lib.hid hmm
          have HJ := Lib.hid (And.intro hj hmc)
          have HOut := Lib.hid (Kd.R_mono (Kd.R_bound (Kd.R_drew hR.out)) (fun k_ hk_ => hk_.2.2.1))
          have HB := hB
          have hcutA := cut_to (P := Tryd.prog) 22 3 .i64 Tryd.underlying22 HI.out.1 A m.length c (j : Int) (by omega) (by omega) hmc
          have hcutB := cut_from (P := Tryd.prog) 22 3 .i64 Tryd.underlying22 HI.out.1 1 HI.out.2 A m.length c (j : Int) (by omega) (by omega)
          rw [Int.toNat_natCast] at hcutA hcutB
          obtain ⟨A1, hA1⟩ : ∃ A1, A1 = (if c = j then A else A.map (·.add (j * 1))) := ⟨_, rfl⟩
          rw [← hA1] at hcutB
          have HA1 := Lib.hid hA1
          clear hA1
          clear hkp hkj
          by_cases hj0 : 0 < j
          · obtain ⟨i, hi⟩ : ∃ i, i + 1 = j := ⟨j - 1, by omega⟩
            obtain ⟨ad2, rfl, hcell2⟩ := Kd.at_int (Kd.R_reads' hR.out).2.2 (i : Int) (by omega) (by omega)
            rw [Int.toNat_natCast] at hcell2
            have hrd2 : rd m (i : Int) = m.getD i 0 := by unfold rd; rw [Int.toNat_natCast]
            rw [hrd2] at hcell2
            have hg2 : ¬ m.getD i 0 > p := fun h => hgo ⟨hj0, by rw [← hi, Nat.add_sub_cancel]; exact h⟩
            generalize m.getD i 0 = x at hcell2 hg2
            have q3 : wrap64 ((j : Int) - 1) = (i : Int) := by unfold wrap64; omega
            have q4 : (0 : Int) ≤ (i : Int) := by omega
            have q5 : (i : Int) < (m.length : Int) := by omega
            have q6 : (j : Int) > 0 := by omega
            clear hgo hrd2 hmm hj hj0 hi
            go_wp2
            refine start_ (n := 12) (S := fun _ => True) (ds := []) #[false, false, false, false, false, false, false, false, false, false, false, false] (by kernel_rfl) rfl rfl trivial (fun hHeld => ?_)
            refine pure_ (i := 0) (N := some 28) (v := ?_) (a' := ?_) #[true, false, false, false, false, false, false, false, false, false, false, false] rfl rfl (by kernel_rfl) (fun _ _ _ h => h) (Or.inl ⟨by rfl, ?_⟩) ?_ ?_
            rotate_left
            · intro w'
              go_simp
              with_reducible rfl
            rotate_left
            · simp only [Act.put, putAll, List.setIfInBounds_toArray, List.set_cons_zero, List.set_cons_succ, i64_w, i32_w]
              rfl
            refine pure_ (i := 1) (N := some 29) (v := ?_) (a' := ?_) #[true, true, false, false, false, false, false, false, false, false, false, false] rfl rfl (by kernel_rfl) (fun _ _ _ h => h) (Or.inl ⟨by rfl, ?_⟩) ?_ ?_
            rotate_left
            · intro w'
              go_simp
              with_reducible rfl
            rotate_left
            · simp only [Act.put, putAll, List.setIfInBounds_toArray, List.set_cons_zero, List.set_cons_succ, i64_w, i32_w]
              rfl
            refine pure_ (i := 2) (N := some 30) (v := ?_) (a' := ?_) #[true, true, true, false, false, false, false, false, false, false, false, false] rfl rfl (by kernel_rfl) (fun _ _ _ h => h) (Or.inl ⟨by rfl, ?_⟩) ?_ ?_
            rotate_left
            · intro w'
              go_simp
              with_reducible rfl
            rotate_left
            · simp only [Act.put, putAll, List.setIfInBounds_toArray, List.set_cons_zero, List.set_cons_succ, i64_w, i32_w]
              rfl
            refine pure_ (i := 4) (N := some 32) (v := ?_) (a' := ?_) #[true, true, true, false, true, false, false, false, false, false, false, false] rfl rfl (by kernel_rfl) (fun _ _ _ h => h) (Or.inl ⟨by rfl, ?_⟩) ?_ ?_
            rotate_left
            · intro w'
              go_simp
              with_reducible rfl
            rotate_left
            · simp only [Act.put, putAll, List.setIfInBounds_toArray, List.set_cons_zero, List.set_cons_succ, i64_w, i32_w]
              rfl
            refine pure_ (i := 7) (N := some 35) (v := ?_) (a' := ?_) #[true, true, true, false, true, false, false, true, false, false, false, false] rfl rfl (by kernel_rfl) (fun _ _ _ h => h) (Or.inl ⟨by rfl, ?_⟩) ?_ ?_
            rotate_left
            · intro w'
              go_simp
              with_reducible rfl
            rotate_left
            · simp only [Act.put, putAll, List.setIfInBounds_toArray, List.set_cons_zero, List.set_cons_succ, i64_w, i32_w]
              rfl
            refine pure_ (i := 8) (N := some 36) (v := ?_) (a' := ?_) #[true, true, true, false, true, false, false, true, true, false, false, false] rfl rfl (by kernel_rfl) (fun _ _ _ h => h) (Or.inl ⟨by rfl, ?_⟩) ?_ ?_
            rotate_left
            · intro w'
              go_simp
              with_reducible rfl
            rotate_left
            · simp only [Act.put, putAll, List.setIfInBounds_toArray, List.set_cons_zero, List.set_cons_succ, i64_w, i32_w]
              rfl
            refine pure_ (i := 9) (N := some 37) (v := ?_) (a' := ?_) #[true, true, true, false, true, false, false, true, true, true, false, false] rfl rfl (by kernel_rfl) (fun _ _ _ h => h) (Or.inl ⟨by rfl, ?_⟩) ?_ ?_
            rotate_left
            · intro w'
              go_simp
              with_reducible rfl
            rotate_left
            · simp only [Act.put, putAll, List.setIfInBounds_toArray, List.set_cons_zero, List.set_cons_succ, i64_w, i32_w]
              rfl
            refine join_ (σ := Value × Nat) 3 #[true, true, true, true, true, true, false, true, true, true, false, false] (fun s_ => [(31, s_.1), (33, .slice (some ⟨s_.2, 0, none⟩) 1 1)]) (Two w wr.drew (.slice (some ad2) m.length c) m p j) ?hcont ?hrun
            case hrun =>
              intro hcont
              refine two_ (i := 3) (j := 5) (Ni := some 31) (Nj := some 33) #[true, true, true, true, true, false, false, true, true, true, false, false] #[true, true, true, false, true, true, false, true, true, true, false, false] rfl rfl rfl rfl (by kernel_rfl) (by decide) (by decide) (fun K hK => ?_) (fun K hK => ?_)
              · skip
                refine Kd.R_append_rows_step (Kd.int .i64) (w0 := w) w.heap.size (by rfl) (.const (.slice none 0 0)) (.tmp 30) 22 3 (.int .i64 0) 8 rfl Tryd.underlying22 info3 rfl (by decide) (by omega) (.slice none 0 0) ([] : List Int) (m.take j) _ _ _ (fun k_ => wr.drew.heap.size ≤ k_) (fun _ => False) rfl rfl ?aO ?aR (fun _ _ h => h) (fun _ h => h.elim) ?aF ?aB ?aS ?aL ?_
                (case aO => exact (Kd.R_nil _ _ _ _ _))
                (case aR => exact (fst_ HOut.out HJ.out.1))
                (case aF => exact (fun _ h => h))
                (case aB => exact (below_drew1 HB.out))
                (case aS => exact (below_drew1 HB.out).size)
                (case aL => rw [List.length_nil]; have := HM.out; have := HJ.out.1; omega)
                intro v1 w1 ho1 hb1 hg1 hat1
                have HO1 := Lib.hid ho1
                have HB1 := Lib.hid hb1
                have HOut1 := Lib.hid (Kd.R_grown HOut.out hg1 (fun _ _ => by simp [Value.ownBlock]))
                have HZ1 := Lib.hid hg1.size
                clear ho1 hb1 hg1 hat1
                refine hK.out _ _ trivial (fun _ => ?_)
                clear hK K
                refine norm_ (a' := ?_) ?_ ?_
                rotate_left
                · show Act.put _ (some 31) _ = _
                  simp only [Act.put, putAll, List.setIfInBounds_toArray, List.set_cons_zero, List.set_cons_succ, i64_w, i32_w]
                  rfl
                refine one_ (i := 5) (N := some 33) #[true, true, true, true, true, true, false, true, true, true, false, false] rfl rfl (by kernel_rfl) (by decide) (fun K hK => ?_)
                refine value_ (w1 := ?_) (v := ?_) (by rfl) rfl ?_ ?_
                rotate_left 2
                · go_simp
                  constructor
                  · rfl
                  · rfl
                refine hK.out _ _ trivial (fun _ => ?_)
                clear hK K
                refine norm_ (a' := ?_) ?_ ?_
                rotate_left
                · show Act.put _ (some 33) _ = _
                  simp only [Act.put, putAll, List.setIfInBounds_toArray, List.set_cons_zero, List.set_cons_succ, i64_w, i32_w]
                  rfl
                have hfin := hcont (v1, w1.heap.size) (w1.alloc (.cells #[.int .i64 p] 3 (0, 0))) ⟨Kd.R_alloc HO1.out _, Kd.R_alloc HOut1.out _, HB1.out.alloc HB1.out.size _, Nat.le_trans HZ1.out (by simp), alloc_cell _ _⟩
                simp only [putAll, Act.put, List.setIfInBounds_toArray, List.set_cons_zero, List.set_cons_succ] at hfin
                exact hfin
              · skip
                refine value_ (w1 := ?_) (v := ?_) (by rfl) rfl ?_ ?_
                rotate_left 2
                · go_simp
                  constructor
                  · rfl
                  · rfl
                refine hK.out _ _ trivial (fun _ => ?_)
                clear hK K
                refine norm_ (a' := ?_) ?_ ?_
                rotate_left
                · show Act.put _ (some 33) _ = _
                  simp only [Act.put, putAll, List.setIfInBounds_toArray, List.set_cons_zero, List.set_cons_succ, i64_w, i32_w]
                  rfl
                refine one_ (i := 3) (N := some 31) #[true, true, true, true, true, true, false, true, true, true, false, false] rfl rfl (by kernel_rfl) (by decide) (fun K hK => ?_)
                have HOut1 := Lib.hid (Kd.R_alloc HOut.out (.cells #[.int .i64 p] 3 (0, 0)))
                refine Kd.R_append_rows_step (Kd.int .i64) (w0 := w) w.heap.size (by rfl) (.const (.slice none 0 0)) (.tmp 30) 22 3 (.int .i64 0) 8 rfl Tryd.underlying22 info3 rfl (by decide) (by omega) (.slice none 0 0) ([] : List Int) (m.take j) _ _ _ (fun k_ => wr.drew.heap.size ≤ k_) (fun _ => False) rfl rfl ?aO ?aR (fun _ _ h => h) (fun _ h => h.elim) ?aF ?aB ?aS ?aL ?_
                (case aO => exact (Kd.R_nil _ _ _ _ _))
                (case aR => exact (fst_ HOut1.out HJ.out.1))
                (case aF => exact (fun _ h => Nat.le_trans (by simp) h))
                (case aB => exact ((below_drew1 HB.out).alloc (below_drew1 HB.out).size _))
                (case aS => exact ((below_drew1 HB.out).alloc (below_drew1 HB.out).size _).size)
                (case aL => rw [List.length_nil]; have := HM.out; have := HJ.out.1; omega)
                intro v1 w1 ho1 hb1 hg1 hat1
                have HO1 := Lib.hid ho1
                have HB1 := Lib.hid hb1
                have HZ1 := Lib.hid (show wr.drew.heap.size ≤ w1.heap.size from Nat.le_trans (by simp) hg1.size)
                have HOut2 := Lib.hid (Kd.R_grown HOut1.out hg1 (fun _ _ => by simp [Value.ownBlock]))
                have HC1 := Lib.hid (show w1.heap[wr.drew.heap.size]? = some (.cells #[.int .i64 p] 3 (0, 0)) from blk_grown (alloc_at _ _) hg1 (by simp [Value.ownBlock]))
                clear ho1 hb1 hg1 hat1
                refine hK.out _ _ trivial (fun _ => ?_)
                clear hK K
                refine norm_ (a' := ?_) ?_ ?_
                rotate_left
                · show Act.put _ (some 31) _ = _
                  simp only [Act.put, putAll, List.setIfInBounds_toArray, List.set_cons_zero, List.set_cons_succ, i64_w, i32_w]
                  rfl
                have hfin := hcont (v1, wr.drew.heap.size) w1 ⟨HO1.out, HOut2.out, HB1.out, HZ1.out, one_cell HC1.out⟩
                simp only [putAll, Act.put, List.setIfInBounds_toArray, List.set_cons_zero, List.set_cons_succ] at hfin
                exact hfin
            case hcont =>
              rintro ⟨v1, g⟩ w2 ⟨ho1, hou, hb2, hz2, hc2⟩
              have HO1 := Lib.hid ho1
              have HOu := Lib.hid hou
              have HB2 := Lib.hid hb2
              have HC2 := Lib.hid hc2
              have HZ2 := Lib.hid hz2
              clear ho1 hou hb2 hc2 hz2 hcutA hcutB
              refine norm_ (a' := ?_) ?_ ?_
              rotate_left
              · simp only [Act.put, putAll, List.setIfInBounds_toArray, List.set_cons_zero, List.set_cons_succ, i64_w, i32_w]
                rfl
              refine one_ (i := 6) (N := some 34) #[true, true, true, true, true, true, true, true, true, true, false, false] rfl rfl (by kernel_rfl) (by decide) (fun K hK => ?_)
              refine Kd.R_append_rows_step (Kd.int .i64) (w0 := w) w.heap.size (by rfl) (.tmp 31) (.tmp 33) 22 3 (.int .i64 0) 8 rfl Tryd.underlying22 info3 rfl (by decide) (by omega) v1 ([] ++ m.take j) [p] _ _ _ (fun k_ => wr.drew.heap.size ≤ k_) (fun _ => False) rfl rfl ?aO ?aR (fun _ _ h => h) (fun _ h => h.elim) ?aF ?aB ?aS ?aL ?_
              (case aO => exact HO1.out)
              (case aR => exact HC2.out)
              (case aF => exact (fun _ h => Nat.le_trans HZ2.out h))
              (case aB => exact HB2.out)
              (case aS => exact HB2.out.size)
              (case aL => rw [List.nil_append, List.length_take]; have := HM.out; have := HJ.out.1; omega)
              intro v3 w3 ho3 hb3 hg3 hat3
              have HO3 := Lib.hid ho3
              have HB3 := Lib.hid hb3
              have HZ3 := Lib.hid (Nat.le_trans HZ2.out hg3.size)
              have HOu3 := Lib.hid (Kd.R_grown HOu.out hg3 (fun k hk e => by have := HO1.out.1 k e.symm; simp only at this hk; omega))
              clear ho3 hb3 hg3 hat3
              refine hK.out _ _ trivial (fun _ => ?_)
              clear hK K
              refine norm_ (a' := ?_) ?_ ?_
              rotate_left
              · show Act.put _ (some 34) _ = _
                simp only [Act.put, putAll, List.setIfInBounds_toArray, List.set_cons_zero, List.set_cons_succ, i64_w, i32_w]
                rfl
              refine one_ (i := 10) (N := some 38) #[true, true, true, true, true, true, true, true, true, true, true, false] rfl rfl (by kernel_rfl) (by decide) (fun K hK => ?_)
              refine Kd.R_append_rows_step (Kd.int .i64) (w0 := w) w.heap.size (by rfl) (.tmp 34) (.tmp 37) 22 3 (.int .i64 0) 8 rfl Tryd.underlying22 info3 rfl (by decide) (by omega) v3 ([] ++ m.take j ++ [p]) (m.drop j) _ _ _ (fun k_ => wr.drew.heap.size ≤ k_) (fun _ => False) rfl rfl ?aO ?aR (fun _ _ h => h) (fun _ h => h.elim) ?aF ?aB ?aS ?aL ?_
              (case aO => exact HO3.out)
              (case aR => rw [HA1.out]; exact (snd_ HOu3.out HJ.out.1))
              (case aF => exact (fun _ h => Nat.le_trans HZ3.out h))
              (case aB => exact HB3.out)
              (case aS => exact HB3.out.size)
              (case aL => rw [List.nil_append, List.length_append, List.length_take, List.length_singleton]; have := HM.out; have := HJ.out.1; omega)
              intro v4 w4 ho4 hb4 hg4 hat4
              have HO4 := Lib.hid ho4
              have HB4 := Lib.hid hb4
              clear ho4 hb4 hg4 hat4
              refine hK.out _ _ trivial (fun _ => ?_)
              clear hK K
              refine norm_ (a' := ?_) ?_ ?_
              rotate_left
              · show Act.put _ (some 38) _ = _
                simp only [Act.put, putAll, List.setIfInBounds_toArray, List.set_cons_zero, List.set_cons_succ, i64_w, i32_w]
                rfl
              refine pure_ (i := 11) (N := some 3) (v := ?_) (a' := ?_) #[true, true, true, true, true, true, true, true, true, true, true, true] rfl rfl (by kernel_rfl) (fun _ _ _ h => h) (Or.inl ⟨by rfl, ?_⟩) ?_ ?_
              rotate_left
              · intro w'
                go_simp
                with_reducible rfl
              rotate_left
              · simp only [Act.put, putAll, List.setIfInBounds_toArray, List.set_cons_zero, List.set_cons_succ, i64_w, i32_w]
                rfl
              refine done_ (by kernel_rfl) ?_
              go_wp2
              go_roundw
              case measure => simp only [intOf]; omega
              case rel => exact ⟨k + 1, [] ++ m.take j ++ [p] ++ m.drop j, by omega, by simp, ⟨by rw [HT.out, ← hm.out]; unfold put1; rw [HK.out]⟩, ⟨by have := HJ.out.1; have := hmk.out; simp only [List.nil_append, List.length_append, List.length_take, List.length_drop, List.length_singleton]; omega⟩, ⟨Kd.R_mono HO4.out (fun _ _ => trivial)⟩, ⟨HB4.out⟩⟩
          · have q6 : ¬ (j : Int) > 0 := by omega
            clear hgo hmm hj hj0
            go_wp2
            refine start_ (n := 12) (S := fun _ => True) (ds := []) #[false, false, false, false, false, false, false, false, false, false, false, false] (by kernel_rfl) rfl rfl trivial (fun hHeld => ?_)
            refine pure_ (i := 0) (N := some 28) (v := ?_) (a' := ?_) #[true, false, false, false, false, false, false, false, false, false, false, false] rfl rfl (by kernel_rfl) (fun _ _ _ h => h) (Or.inl ⟨by rfl, ?_⟩) ?_ ?_
            rotate_left
            · intro w'
              go_simp
              with_reducible rfl
            rotate_left
            · simp only [Act.put, putAll, List.setIfInBounds_toArray, List.set_cons_zero, List.set_cons_succ, i64_w, i32_w]
              rfl
            refine pure_ (i := 1) (N := some 29) (v := ?_) (a' := ?_) #[true, true, false, false, false, false, false, false, false, false, false, false] rfl rfl (by kernel_rfl) (fun _ _ _ h => h) (Or.inl ⟨by rfl, ?_⟩) ?_ ?_
            rotate_left
            · intro w'
              go_simp
              with_reducible rfl
            rotate_left
            · simp only [Act.put, putAll, List.setIfInBounds_toArray, List.set_cons_zero, List.set_cons_succ, i64_w, i32_w]
              rfl
            refine pure_ (i := 2) (N := some 30) (v := ?_) (a' := ?_) #[true, true, true, false, false, false, false, false, false, false, false, false] rfl rfl (by kernel_rfl) (fun _ _ _ h => h) (Or.inl ⟨by rfl, ?_⟩) ?_ ?_
            rotate_left
            · intro w'
              go_simp
              with_reducible rfl
            rotate_left
            · simp only [Act.put, putAll, List.setIfInBounds_toArray, List.set_cons_zero, List.set_cons_succ, i64_w, i32_w]
              rfl
            refine pure_ (i := 4) (N := some 32) (v := ?_) (a' := ?_) #[true, true, true, false, true, false, false, false, false, false, false, false] rfl rfl (by kernel_rfl) (fun _ _ _ h => h) (Or.inl ⟨by rfl, ?_⟩) ?_ ?_
            rotate_left
            · intro w'
              go_simp
              with_reducible rfl
            rotate_left
            · simp only [Act.put, putAll, List.setIfInBounds_toArray, List.set_cons_zero, List.set_cons_succ, i64_w, i32_w]
              rfl
            refine pure_ (i := 7) (N := some 35) (v := ?_) (a' := ?_) #[true, true, true, false, true, false, false, true, false, false, false, false] rfl rfl (by kernel_rfl) (fun _ _ _ h => h) (Or.inl ⟨by rfl, ?_⟩) ?_ ?_
            rotate_left
            · intro w'
              go_simp
              with_reducible rfl
            rotate_left
            · simp only [Act.put, putAll, List.setIfInBounds_toArray, List.set_cons_zero, List.set_cons_succ, i64_w, i32_w]
              rfl
            refine pure_ (i := 8) (N := some 36) (v := ?_) (a' := ?_) #[true, true, true, false, true, false, false, true, true, false, false, false] rfl rfl (by kernel_rfl) (fun _ _ _ h => h) (Or.inl ⟨by rfl, ?_⟩) ?_ ?_
            rotate_left
            · intro w'
              go_simp
              with_reducible rfl
            rotate_left
            · simp only [Act.put, putAll, List.setIfInBounds_toArray, List.set_cons_zero, List.set_cons_succ, i64_w, i32_w]
              rfl
            refine pure_ (i := 9) (N := some 37) (v := ?_) (a' := ?_) #[true, true, true, false, true, false, false, true, true, true, false, false] rfl rfl (by kernel_rfl) (fun _ _ _ h => h) (Or.inl ⟨by rfl, ?_⟩) ?_ ?_
            rotate_left
            · intro w'
              go_simp
              with_reducible rfl
            rotate_left
            · simp only [Act.put, putAll, List.setIfInBounds_toArray, List.set_cons_zero, List.set_cons_succ, i64_w, i32_w]
              rfl
            refine join_ (σ := Value × Nat) 3 #[true, true, true, true, true, true, false, true, true, true, false, false] (fun s_ => [(31, s_.1), (33, .slice (some ⟨s_.2, 0, none⟩) 1 1)]) (Two w wr.drew (.slice A m.length c) m p j) ?hcont ?hrun
            case hrun =>
              intro hcont
              refine two_ (i := 3) (j := 5) (Ni := some 31) (Nj := some 33) #[true, true, true, true, true, false, false, true, true, true, false, false] #[true, true, true, false, true, true, false, true, true, true, false, false] rfl rfl rfl rfl (by kernel_rfl) (by decide) (by decide) (fun K hK => ?_) (fun K hK => ?_)
              · skip
                refine Kd.R_append_rows_step (Kd.int .i64) (w0 := w) w.heap.size (by rfl) (.const (.slice none 0 0)) (.tmp 30) 22 3 (.int .i64 0) 8 rfl Tryd.underlying22 info3 rfl (by decide) (by omega) (.slice none 0 0) ([] : List Int) (m.take j) _ _ _ (fun k_ => wr.drew.heap.size ≤ k_) (fun _ => False) rfl rfl ?aO ?aR (fun _ _ h => h) (fun _ h => h.elim) ?aF ?aB ?aS ?aL ?_
                (case aO => exact (Kd.R_nil _ _ _ _ _))
                (case aR => exact (fst_ HOut.out HJ.out.1))
                (case aF => exact (fun _ h => h))
                (case aB => exact (below_drew1 HB.out))
                (case aS => exact (below_drew1 HB.out).size)
                (case aL => rw [List.length_nil]; have := HM.out; have := HJ.out.1; omega)
                intro v1 w1 ho1 hb1 hg1 hat1
                have HO1 := Lib.hid ho1
                have HB1 := Lib.hid hb1
                have HOut1 := Lib.hid (Kd.R_grown HOut.out hg1 (fun _ _ => by simp [Value.ownBlock]))
                have HZ1 := Lib.hid hg1.size
                clear ho1 hb1 hg1 hat1
                refine hK.out _ _ trivial (fun _ => ?_)
                clear hK K
                refine norm_ (a' := ?_) ?_ ?_
                rotate_left
                · show Act.put _ (some 31) _ = _
                  simp only [Act.put, putAll, List.setIfInBounds_toArray, List.set_cons_zero, List.set_cons_succ, i64_w, i32_w]
                  rfl
                refine one_ (i := 5) (N := some 33) #[true, true, true, true, true, true, false, true, true, true, false, false] rfl rfl (by kernel_rfl) (by decide) (fun K hK => ?_)
                refine value_ (w1 := ?_) (v := ?_) (by rfl) rfl ?_ ?_
                rotate_left 2
                · go_simp
                  constructor
                  · rfl
                  · rfl
                refine hK.out _ _ trivial (fun _ => ?_)
                clear hK K
                refine norm_ (a' := ?_) ?_ ?_
                rotate_left
                · show Act.put _ (some 33) _ = _
                  simp only [Act.put, putAll, List.setIfInBounds_toArray, List.set_cons_zero, List.set_cons_succ, i64_w, i32_w]
                  rfl
                have hfin := hcont (v1, w1.heap.size) (w1.alloc (.cells #[.int .i64 p] 3 (0, 0))) ⟨Kd.R_alloc HO1.out _, Kd.R_alloc HOut1.out _, HB1.out.alloc HB1.out.size _, Nat.le_trans HZ1.out (by simp), alloc_cell _ _⟩
                simp only [putAll, Act.put, List.setIfInBounds_toArray, List.set_cons_zero, List.set_cons_succ] at hfin
                exact hfin
              · skip
                refine value_ (w1 := ?_) (v := ?_) (by rfl) rfl ?_ ?_
                rotate_left 2
                · go_simp
                  constructor
                  · rfl
                  · rfl
                refine hK.out _ _ trivial (fun _ => ?_)
                clear hK K
                refine norm_ (a' := ?_) ?_ ?_
                rotate_left
                · show Act.put _ (some 33) _ = _
                  simp only [Act.put, putAll, List.setIfInBounds_toArray, List.set_cons_zero, List.set_cons_succ, i64_w, i32_w]
                  rfl
                refine one_ (i := 3) (N := some 31) #[true, true, true, true, true, true, false, true, true, true, false, false] rfl rfl (by kernel_rfl) (by decide) (fun K hK => ?_)
                have HOut1 := Lib.hid (Kd.R_alloc HOut.out (.cells #[.int .i64 p] 3 (0, 0)))
                refine Kd.R_append_rows_step (Kd.int .i64) (w0 := w) w.heap.size (by rfl) (.const (.slice none 0 0)) (.tmp 30) 22 3 (.int .i64 0) 8 rfl Tryd.underlying22 info3 rfl (by decide) (by omega) (.slice none 0 0) ([] : List Int) (m.take j) _ _ _ (fun k_ => wr.drew.heap.size ≤ k_) (fun _ => False) rfl rfl ?aO ?aR (fun _ _ h => h) (fun _ h => h.elim) ?aF ?aB ?aS ?aL ?_
                (case aO => exact (Kd.R_nil _ _ _ _ _))
                (case aR => exact (fst_ HOut1.out HJ.out.1))
                (case aF => exact (fun _ h => Nat.le_trans (by simp) h))
                (case aB => exact ((below_drew1 HB.out).alloc (below_drew1 HB.out).size _))
                (case aS => exact ((below_drew1 HB.out).alloc (below_drew1 HB.out).size _).size)
                (case aL => rw [List.length_nil]; have := HM.out; have := HJ.out.1; omega)
                intro v1 w1 ho1 hb1 hg1 hat1
                have HO1 := Lib.hid ho1
                have HB1 := Lib.hid hb1
                have HZ1 := Lib.hid (show wr.drew.heap.size ≤ w1.heap.size from Nat.le_trans (by simp) hg1.size)
                have HOut2 := Lib.hid (Kd.R_grown HOut1.out hg1 (fun _ _ => by simp [Value.ownBlock]))
                have HC1 := Lib.hid (show w1.heap[wr.drew.heap.size]? = some (.cells #[.int .i64 p] 3 (0, 0)) from blk_grown (alloc_at _ _) hg1 (by simp [Value.ownBlock]))
                clear ho1 hb1 hg1 hat1
                refine hK.out _ _ trivial (fun _ => ?_)
                clear hK K
                refine norm_ (a' := ?_) ?_ ?_
                rotate_left
                · show Act.put _ (some 31) _ = _
                  simp only [Act.put, putAll, List.setIfInBounds_toArray, List.set_cons_zero, List.set_cons_succ, i64_w, i32_w]
                  rfl
                have hfin := hcont (v1, wr.drew.heap.size) w1 ⟨HO1.out, HOut2.out, HB1.out, HZ1.out, one_cell HC1.out⟩
                simp only [putAll, Act.put, List.setIfInBounds_toArray, List.set_cons_zero, List.set_cons_succ] at hfin
                exact hfin
            case hcont =>
              rintro ⟨v1, g⟩ w2 ⟨ho1, hou, hb2, hz2, hc2⟩
              have HO1 := Lib.hid ho1
              have HOu := Lib.hid hou
              have HB2 := Lib.hid hb2
              have HC2 := Lib.hid hc2
              have HZ2 := Lib.hid hz2
              clear ho1 hou hb2 hc2 hz2 hcutA hcutB
              refine norm_ (a' := ?_) ?_ ?_
              rotate_left
              · simp only [Act.put, putAll, List.setIfInBounds_toArray, List.set_cons_zero, List.set_cons_succ, i64_w, i32_w]
                rfl
              refine one_ (i := 6) (N := some 34) #[true, true, true, true, true, true, true, true, true, true, false, false] rfl rfl (by kernel_rfl) (by decide) (fun K hK => ?_)
              refine Kd.R_append_rows_step (Kd.int .i64) (w0 := w) w.heap.size (by rfl) (.tmp 31) (.tmp 33) 22 3 (.int .i64 0) 8 rfl Tryd.underlying22 info3 rfl (by decide) (by omega) v1 ([] ++ m.take j) [p] _ _ _ (fun k_ => wr.drew.heap.size ≤ k_) (fun _ => False) rfl rfl ?aO ?aR (fun _ _ h => h) (fun _ h => h.elim) ?aF ?aB ?aS ?aL ?_
              (case aO => exact HO1.out)
              (case aR => exact HC2.out)
              (case aF => exact (fun _ h => Nat.le_trans HZ2.out h))
              (case aB => exact HB2.out)
              (case aS => exact HB2.out.size)
              (case aL => rw [List.nil_append, List.length_take]; have := HM.out; have := HJ.out.1; omega)
              intro v3 w3 ho3 hb3 hg3 hat3
              have HO3 := Lib.hid ho3
              have HB3 := Lib.hid hb3
              have HZ3 := Lib.hid (Nat.le_trans HZ2.out hg3.size)
              have HOu3 := Lib.hid (Kd.R_grown HOu.out hg3 (fun k hk e => by have := HO1.out.1 k e.symm; simp only at this hk; omega))
              clear ho3 hb3 hg3 hat3
              refine hK.out _ _ trivial (fun _ => ?_)
              clear hK K
              refine norm_ (a' := ?_) ?_ ?_
              rotate_left
              · show Act.put _ (some 34) _ = _
                simp only [Act.put, putAll, List.setIfInBounds_toArray, List.set_cons_zero, List.set_cons_succ, i64_w, i32_w]
                rfl
              refine one_ (i := 10) (N := some 38) #[true, true, true, true, true, true, true, true, true, true, true, false] rfl rfl (by kernel_rfl) (by decide) (fun K hK => ?_)
              refine Kd.R_append_rows_step (Kd.int .i64) (w0 := w) w.heap.size (by rfl) (.tmp 34) (.tmp 37) 22 3 (.int .i64 0) 8 rfl Tryd.underlying22 info3 rfl (by decide) (by omega) v3 ([] ++ m.take j ++ [p]) (m.drop j) _ _ _ (fun k_ => wr.drew.heap.size ≤ k_) (fun _ => False) rfl rfl ?aO ?aR (fun _ _ h => h) (fun _ h => h.elim) ?aF ?aB ?aS ?aL ?_
              (case aO => exact HO3.out)
              (case aR => rw [HA1.out]; exact (snd_ HOu3.out HJ.out.1))
              (case aF => exact (fun _ h => Nat.le_trans HZ3.out h))
              (case aB => exact HB3.out)
              (case aS => exact HB3.out.size)
              (case aL => rw [List.nil_append, List.length_append, List.length_take, List.length_singleton]; have := HM.out; have := HJ.out.1; omega)
              intro v4 w4 ho4 hb4 hg4 hat4
              have HO4 := Lib.hid ho4
              have HB4 := Lib.hid hb4
              clear ho4 hb4 hg4 hat4
              refine hK.out _ _ trivial (fun _ => ?_)
              clear hK K
              refine norm_ (a' := ?_) ?_ ?_
              rotate_left
              · show Act.put _ (some 38) _ = _
                simp only [Act.put, putAll, List.setIfInBounds_toArray, List.set_cons_zero, List.set_cons_succ, i64_w, i32_w]
                rfl
              refine pure_ (i := 11) (N := some 3) (v := ?_) (a' := ?_) #[true, true, true, true, true, true, true, true, true, true, true, true] rfl rfl (by kernel_rfl) (fun _ _ _ h => h) (Or.inl ⟨by rfl, ?_⟩) ?_ ?_
              rotate_left
              · intro w'
                go_simp
                with_reducible rfl
              rotate_left
              · simp only [Act.put, putAll, List.setIfInBounds_toArray, List.set_cons_zero, List.set_cons_succ, i64_w, i32_w]
                rfl
              refine done_ (by kernel_rfl) ?_
              go_wp2
              go_roundw
              case measure => simp only [intOf]; omega
              case rel => exact ⟨k + 1, [] ++ m.take j ++ [p] ++ m.drop j, by omega, by simp, ⟨by rw [HT.out, ← hm.out]; unfold put1; rw [HK.out]⟩, ⟨by have := HJ.out.1; have := hmk.out; simp only [List.nil_append, List.length_append, List.length_take, List.length_drop, List.length_singleton]; omega⟩, ⟨Kd.R_mono HO4.out (fun _ _ => trivial)⟩, ⟨HB4.out⟩⟩
    · obtain rfl : k = l.length := by omega
      rw [List.take_length] at hm
      go_wp2
      go_ret
      exact ⟨_, rfl, by rw [← hm.out]; exact hR.out, hB.out⟩
theorem soundserviceref06_Sorted.calls (A0 : Option Addr) (c0 : Nat) (l0 : List Int) (r : List Int) (w : World) (hr0 : Kd.C (Kd.int .i64) w A0 l0.length l0) (hc0 : l0.length ≤ c0) (h : soundserviceref06_Sorted.f l0 = some r) :
    Calls Tryd.prog 19 #[.slice A0 l0.length c0] w fun e w' => ∃ v0_ : Value, e = .returned (v0_) ∧ Kd.R (Kd.int .i64) 3 w' w.heap.size (fun _ => True) v0_ r ∧ Below w.heap.size w w' := by
  unfold soundserviceref06_Sorted.f at h
  split at h
  · rename_i hl
    obtain rfl := Option.some.inj h
    exact soundserviceref06_Sorted.walk A0 c0 l0 w hr0 hc0 hl
  · cases h
end Go.Proofs.YtglikjpnlgciiaaDoor.Q
