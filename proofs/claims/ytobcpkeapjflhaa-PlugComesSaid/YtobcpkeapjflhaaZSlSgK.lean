-- Declarations of the text that this claim uses (slim.py, a program of this session).
import Derived.Test.YtobcpkeapjflhaaZSl1
import Derived.Test.YtobcpkeapjflhaaZSlSg
import Derived.Test.YtobcpkeapjflhaaZQx0
import Derived.WalkKit
import Derived.Lib.Hide
import Derived.ChangeAlike
import Derived.Lib.SliceRun
namespace Go.Proofs.Ytobcpkeapjflhaa.Q
open Go Go.RowKit Go.Proofs.YtobcpkeapjflhaaW.PrintWords Go.Proofs.YtobcpkeapjflhaaW.PrintLast Go.Proofs.YtobcpkeapjflhaaW.PrintMore Go.Proofs.YtobcpkeapjflhaaSl
set_option linter.unusedVariables false
set_option linter.unusedSimpArgs false
theorem Sg_sz : k68.sz = 2 := rfl
theorem Sg_KM {w w' : World} {base : Nat} {ok : Nat → Prop} {x : S68} {cs : List Value} (h : k68.K w x cs) : k68.M w' base ok x cs := by
  obtain rfl := k68_open h
  exact k68_mkM w' base ok x
theorem Sg_MM {w w' : World} {base base' : Nat} {ok ok' : Nat → Prop} {x : S68} {cs : List Value} (h : k68.M w base ok x cs) : k68.M w' base' ok' x cs := Sg_KM (w := w) (k68.K_of_M h)
def slices_Insert_Sg.f (l0 : List S68) (a1 : Int) (l2 : List S68) : Option (List S68) :=
  if 0 ≤ a1 ∧ a1 ≤ (l0.length : Int) ∧ l2.length = 1 ∧ (l0.length + 1) * 16 ≤ 140737488355328 then some (l0.take a1.toNat ++ l2 ++ l0.drop a1.toNat) else none
set_option maxHeartbeats 4000000 in
set_option maxRecDepth 100000 in
theorem slices_Insert_Sg.calls (P0_ : Nat → Prop) (u9000_ : Value) (l0 : List S68) (a1 : Int) (A2 : Option Addr) (c2 : Nat) (l2 : List S68) (r : List S68) (w0 w : World) (hB : Below w0.heap.size w0 w)
    (ho0 : Kd.R k68 68 w w0.heap.size P0_ u9000_ l0) (hr2 : ∀ W_, Kept w W_ (fun k_ => P0_ k_) → Kd.C k68 W_ A2 l2.length l2) (hc2 : l2.length ≤ c2) (h : slices_Insert_Sg.f l0 a1 l2 = some r) :
    Calls Try.prog 47 #[u9000_, .int .i64 a1, .slice A2 l2.length c2] w fun e w' => ∃ v0_ : Value, e = .returned (v0_) ∧ Kd.R k68 68 w' w0.heap.size (fun k_ => (P0_ k_ ∨ w.heap.size ≤ k_)) v0_ r ∧ Below w0.heap.size w0 w' ∧ Kept w w' (fun k_ => P0_ k_) := by
  unfold slices_Insert_Sg.f at h
  split at h
  · rename_i hc
    obtain ⟨h0, h1, hl2, hbig⟩ := hc
    obtain rfl := Option.some.inj h
    obtain ⟨i, rfl⟩ := Int.eq_ofNat_of_zero_le h0
    simp only [Int.toNat_natCast]
    have hbw : w0.heap.size ≤ w.heap.size := hB.size
    have hok : ∀ k, u9000_.ownBlock = some k → P0_ k := ho0.1
    have hC := hr2 w (Kept.refl w _)
    rcases Nat.lt_or_ge i l0.length with hi | hi
    · obtain ⟨_, inner, hown, hrp⟩ := ho0
      obtain ⟨x, rfl⟩ : ∃ x, l2 = [x] := List.length_eq_one_iff.1 hl2
      have key : ∀ W, Kd.C k68 W A2 1 [x] → ∃ ad cs, A2 = some ad ∧ k68.K W x cs ∧ ∀ j u, cs[j]? = some u → W.cell? (ad.add j) = some u := fun W hW => by
        obtain ⟨ad, e, hcell⟩ := hW.2.2 (by omega)
        obtain ⟨c, hcl, hp, hcc⟩ := hcell 0 x rfl
        exact ⟨ad, c, e, hp, fun j u hu => by have := hcc j u hu; rwa [Nat.zero_mul, Nat.zero_add] at this⟩
      obtain ⟨va, vs, rfl, hK, hvs⟩ := key w hC
      have hvl : vs.length = 2 := k68.K_len hK
      have hv0 : ∃ u, vs[0]? = some u := ⟨_, List.getElem?_eq_getElem (by omega)⟩
      obtain ⟨u0, hu0⟩ := hv0
      have hab : (va.add 0).block = va.block := by unfold Addr.add; split <;> rfl
      obtain ⟨tA, kA, hsa⟩ := shape_of_cell (hvs 0 u0 hu0)
      rw [hab] at hsa
      have hne : ∀ g, u9000_.ownBlock = some g → va.block ≠ g := fun g hg => by
        rw [← hab]
        refine apart_of_kept (P := fun k_ => P0_ k_) (w := w) (u := u0) (hok g hg) (fun W hW => ?_)
        obtain ⟨va', vs', e1, hK', hvs'⟩ := key W (hr2 W hW)
        injection e1 with e1
        subst e1
        have e2 : vs' = vs := by rw [k68_open hK', k68_open hK]
        subst e2
        exact hvs' 0 u0 hu0
      refine (Go.Proofs.YtobcpkeapjflhaaSlSg.ins_mid w0.heap.size u9000_ l0.length i c2 va inner vs w tA kA hown hi hbig hbw (reps_cells hrp (by decide) (fun p c hp => k68.K_one (k68.K_of_M hp))) hvl hvs (k68.K_one hK) hne hsa).mono ?_
      rintro e w' ⟨v', rfl, hown', hgr, hwh⟩
      refine ⟨v', rfl, ⟨fun k hk => ?_, _, by rw [show (l0.take i ++ [x] ++ l0.drop i).length = l0.length + 1 by simp only [List.length_append, List.length_take, List.length_drop, List.length_singleton]; omega]; exact hown', ?_⟩, ?_, ?_⟩
      · rcases hwh with hwh | ⟨b, hb, hbs⟩
        · exact .inl (hok k (hwh.symm.trans hk))
        · rw [hb] at hk
          injection hk with hk
          exact .inr (by omega)
      · exact (reps_append (reps_append ((reps_take hrp i).imp_ (fun p c hp => Sg_MM hp)) (reps_one (Sg_KM hK) hvl)) ((reps_drop hrp i).imp_ (fun p c hp => Sg_MM hp)))
      · exact hB.grown hgr hbw (own_base hown)
      · exact Kept.of_grown hgr (Kept.refl w _) (fun k hk => .inl (hok k hk))
    · have hin : i = l0.length := by omega
      subst hin
      rw [List.take_length, List.drop_length, List.append_nil]
      obtain ⟨A, c, rfl, hnc, _⟩ := Kd.R_reads ho0
      have hnm : l0.length ≤ 9223372036854775807 := by omega
      have hz1 : ¬ ((l2.length : Int) = 0) := by omega
      have HR := Lib.hid hC
      have HO : Hid (Kd.R k68 68 w w0.heap.size (fun k_ => P0_ k_ ∨ w.heap.size ≤ k_) (.slice A l0.length c) l0) := Kd.R_mono ho0 (fun k hk => .inl hk)
      have HOK := Lib.hid hok
      have HB0 := Lib.hid hB
      have HL := Lib.hid hbig
      rw [hl2] at HR
      rw [hl2] at hz1
      rw [hl2]
      clear ho0 hC hr2 hok hbig hB hl2 h0 h1 hc2
      go_enter Try.func47, Try.ntmps47
      go_wp2_with (at_builtin; refine Kd.R_append_rows k68 (w0 := w0) (Rr := k68.K w) w0.heap.size rfl _ _ 45 68 (.agg #[(.int .u64 0), (.int .i64 0)]) 16 rfl Try.underlying45 Go.Proofs.YtobcpkeapjflhaaSlSg.infoE rfl (by decide) (by decide) (.slice A l0.length c) l0 l2 A2 1 c2 (fun k_ => P0_ k_ ∨ w.heap.size ≤ k_) (fun _ => False) rfl rfl HO.out HR.out (fun x cs hx => Sg_KM hx) (fun k hk => hk.elim) (fun k hk => .inr hk) HB0.out hbw HL.out ?_; intro v1 w1 hR1 hB1 hg1 hw1)
      all_goals go_ret
      all_goals exact ⟨v1, rfl, hR1, hB1, Kept.of_grown hg1 (Kept.refl w _) (fun k hk => .inl (HOK.out k hk))⟩
  · cases h
def slices_Clone_Sg.f (l0 : List S68) : Option (List S68) := if l0.length * 16 ≤ 140737488355328 then some l0 else none
set_option maxHeartbeats 4000000 in
set_option maxRecDepth 100000 in
theorem slices_Clone_Sg.calls (A0 : Option Addr) (c0 : Nat) (l0 : List S68) (r : List S68) (w : World) (hr0 : Kd.C k68 w A0 l0.length l0) (hc0 : l0.length ≤ c0) (h : slices_Clone_Sg.f l0 = some r) :
    Calls Try.prog 48 #[.slice A0 l0.length c0] w fun e w' => ∃ v0_ : Value, e = .returned (v0_) ∧ Kd.R k68 68 w' w.heap.size (fun _ => True) v0_ r ∧ Below w.heap.size w w' := by
  unfold slices_Clone_Sg.f at h
  split at h
  · rename_i hbig
    obtain rfl := Option.some.inj h
    have hnm : l0.length ≤ 9223372036854775807 := by omega
    cases A0 with
    | none =>
      have hn : l0 = [] := by
        cases l0 with
        | nil => rfl
        | cons x l => obtain ⟨ad, e, _⟩ := hr0.2.2 (by simp); cases e
      subst hn
      have q1 : ∀ (w : World) (a : Option Addr) (n c n' c' : Nat), (binOp .eql 45 (.slice a n c) (.slice none n' c')).run Try.prog w = .ok (.bool a.isNone) w := fun w a n c n' c' => Lib.run_eql_slice_nil w _ _ a n c n' c' Try.underlying45
      go_enter Try.func48, Try.ntmps48
      go_wp2
      go_ret
      exact ⟨_, rfl, Kd.R_nil _ _ _ _ _, Below.refl _ _⟩
    | some ad =>
      have HR := Lib.hid (Kd.C_alloc hr0 (.cells #[] 68))
      have HL := Lib.hid hbig
      have HO : Hid (Kd.R k68 68 (w.alloc (.cells #[] 68)) w.heap.size (fun _ => True) (.slice (some ⟨w.heap.size, 0, none⟩) 0 0) []) :=
        ⟨fun _ _ => trivial, [], World.ownsRow_made w #[] 0 (Nat.le_refl _) (Nat.zero_le _) (by simp), Reps.none _ _⟩
      have q1 : ∀ (w : World) (a : Option Addr) (n c n' c' : Nat), (binOp .eql 45 (.slice a n c) (.slice none n' c')).run Try.prog w = .ok (.bool a.isNone) w := fun w a n c n' c' => Lib.run_eql_slice_nil w _ _ a n c n' c' Try.underlying45
      clear hr0 hbig
      go_enter Try.func48, Try.ntmps48
      go_wp2_with (at_builtin; refine Kd.R_append_rows k68 (w0 := w) (Rr := k68.K (w.alloc (.cells #[] 68))) w.heap.size rfl _ _ 45 68 (.agg #[(.int .u64 0), (.int .i64 0)]) 16 rfl Try.underlying45 Go.Proofs.YtobcpkeapjflhaaSlSg.infoE rfl (by decide) (by decide) (.slice (some ⟨w.heap.size, 0, none⟩) 0 0) [] l0 (some ad) l0.length c0 (fun _ => True) (fun _ => False) rfl rfl HO.out HR.out (fun x cs hx => Sg_KM hx) (fun k hk => hk.elim) (fun k hk => trivial) ((Below.refl _ w).alloc (Nat.le_refl _) _) (by simp) (by simpa using HL.out) ?_; intro v1 w1 hR1 hB1 hg1 hw1)
      go_ret
      exact ⟨v1, rfl, by simpa using hR1, hB1⟩
  · cases h
def slices_Delete_Sg.f (l0 : List S68) (a1 a2 : Int) : Option (List S68) := if 0 ≤ a1 ∧ a2 = a1 + 1 ∧ a2 ≤ (l0.length : Int) then some (l0.eraseIdx a1.toNat) else none
set_option maxHeartbeats 4000000 in
set_option maxRecDepth 100000 in
theorem slices_Delete_Sg.calls (P0_ : Nat → Prop) (u9000_ : Value) (l0 : List S68) (a1 : Int) (a2 : Int) (r : List S68) (w0 w : World) (hB : Below w0.heap.size w0 w)
    (ho0 : Kd.R k68 68 w w0.heap.size P0_ u9000_ l0) (h : slices_Delete_Sg.f l0 a1 a2 = some r) :
    Calls Try.prog 50 #[u9000_, .int .i64 a1, .int .i64 a2] w fun e w' => ∃ v0_ : Value, e = .returned (v0_) ∧ Kd.R k68 68 w' w0.heap.size (fun k_ => (P0_ k_ ∨ w.heap.size ≤ k_)) v0_ r ∧ Below w0.heap.size w0 w' ∧ Kept w w' (fun k_ => P0_ k_) := by
  unfold slices_Delete_Sg.f at h
  split at h
  · rename_i hc
    obtain ⟨h0, rfl, h1⟩ := hc
    obtain rfl := Option.some.inj h
    obtain ⟨i, rfl⟩ := Int.eq_ofNat_of_zero_le h0
    simp only [Int.toNat_natCast]
    have hi : i < l0.length := by omega
    have hbw : w0.heap.size ≤ w.heap.size := hB.size
    obtain ⟨A, c, rfl, hnc, hC⟩ := Kd.R_reads ho0
    obtain ⟨g, rfl⟩ : ∃ g, A = some ⟨g, 0, none⟩ := by
      obtain ⟨_, inner, hown, _⟩ := ho0
      rcases hown.2 with ⟨_, h2⟩ | ⟨g, cap, cur, hv, _⟩
      · omega
      · injection hv with ha; exact ⟨g, ha⟩
    have hP : P0_ g := ho0.1 g rfl
    obtain ⟨i0, hi0, hz0, hzs, hzb⟩ := info_parts Go.Proofs.YtobcpkeapjflhaaSlSg.infoE
    obtain ⟨w1, hrun, hR1, hg1⟩ := Kd.R_delete_run (P := Try.prog) k68 w0.heap.size 45 45 68 i0 Try.underlying45 hi0 hzs (W := w.drew) (by exact ho0) hi (A := if c = i + 1 then some ⟨g, 0, none⟩ else some ⟨g, (i + 1) * 2, none⟩) (by split <;> simp [Addr.add, Sg_sz]) (c - (i + 1))
    obtain ⟨cur, hg, hcs, hxl, hmc, hcm, hbg, htail⟩ := R_tail hR1
    obtain ⟨zs, hzs2⟩ : ∃ zs, zs = (Builtin.zeroCells (Value.cells (.agg #[(.int .u64 0), (.int .i64 0)])) 1).toList := ⟨_, rfl⟩
    have hzl : zs.length = 2 := by rw [hzs2, Array.length_toList, size_zeroCells]; rfl
    obtain ⟨c2, hc2⟩ : ∃ c2 : Array Value, c2 = (cur.toList.take ((l0.length - 1) * 2) ++ zs ++ cur.toList.drop ((l0.length - 1) * 2 + zs.length)).toArray := ⟨_, rfl⟩
    have hcs' : cur.size = c * 2 := hcs
    have hcl2 : cur.toList.length = c * 2 := by rw [Array.length_toList]; exact hcs
    have hcl : ∀ ty cc, (Builtin.clear_ #[45] ty #[.slice (some ⟨g, (l0.length - 1) * 2, none⟩) 1 cc]).run Try.prog w1 = .ok (.tuple #[]) (w1.setRow g c2) := fun ty cc => by
      rw [hc2, hzs2]
      exact run_clear_row_k w1 45 68 ty (.agg #[(.int .u64 0), (.int .i64 0)]) Try.underlying45 (fun w => by simp [zeroValue, typeInfo, hi0, hz0]) g ((l0.length - 1) * 2) 1 cc cur 68 hg (by omega) (by rw [← hzs2, hzl, hcs']; omega) (by rw [show (Builtin.zeroCells (Value.cells (.agg #[(.int .u64 0), (.int .i64 0)])) 1).toList = (Value.cells (.agg #[(.int .u64 0), (.int .i64 0)])).toList from by first | rfl | kernel_rfl | decide +kernel]; decide +kernel)
    have hR2 : Kd.R k68 68 (w1.setRow g c2) w0.heap.size P0_ (.slice (some ⟨g, 0, none⟩) (l0.length - 1) c) (l0.eraseIdx i) := by
      refine htail c2 ?_ ?_
      · rw [hc2, List.size_toArray]
        simp only [List.length_append, List.length_take, List.length_drop, hzl, Array.length_toList]
        omega
      · rw [Sg_sz, hc2]
        simp only [List.append_assoc]
        rw [List.take_append_of_le_length (by rw [List.length_take, hcl2]; omega), List.take_take, Nat.min_self]
    have hfin : Hid (Kd.R k68 68 (w1.setRow g c2) w0.heap.size (fun k_ => (P0_ k_ ∨ w.heap.size ≤ k_)) (.slice (some ⟨g, 0, none⟩) (l0.length - 1) c) (l0.eraseIdx i) ∧ Below w0.heap.size w0 (w1.setRow g c2) ∧ Kept w (w1.setRow g c2) (fun k_ => P0_ k_)) := by
      have hb1 : Below w0.heap.size w0 w1 := (show Below w0.heap.size w0 w.drew from hB.trans ⟨rfl, rfl, rfl, Nat.le_refl _, fun _ _ => rfl⟩).grown hg1 hbw (fun k hk => by injection hk with hk; omega)
      have hk1 : Kept w w1 (fun k_ => P0_ k_) := Kept.of_grown (W := w.drew) hg1 (Kept.refl w _) (fun k hk => by injection hk with hk; subst hk; exact .inl hP)
      exact ⟨Kd.R_mono hR2 (fun k hk => .inl hk), hb1.trans ⟨rfl, rfl, rfl, by simp [World.setRow], fun k hk => setRow_other w1 g k c2 (by omega)⟩, ⟨by simpa [World.setRow] using hk1.1, fun k hk hn => (setRow_other w1 g k c2 (fun e => hn (by rw [e]; exact hP))).trans (hk1.2 k hk hn)⟩⟩
    have hnm : c ≤ 9223372036854775807 := by unfold maxLen at hcm; exact hcm
    have hA1 : ¬ ((i : Int) = (i : Int) + 1) := by omega
    have hA2 : (0 : Int) ≤ (i : Int) + 1 := by omega
    have hn1 : i ≤ l0.length := by omega
    have hn2 : i + 1 ≤ l0.length := by omega
    have hn3 : ¬ (c = l0.length - 1) := by omega
    have hn4 : l0.length - 1 ≤ l0.length := by omega
    have hn5 : l0.length - (l0.length - 1) = 1 := by omega
    have hic : i ≤ c := by omega
    have hw1 : IntKind.i64.wrap ((i : Int) + 1) = (i : Int) + 1 := by rw [IntKind.wrap_i64]; omega
    clear hR2 htail hc2 hzl hzs2 hg hcs hcs' hcl2 hxl hmc hcm hbg hg1 hR1 hC ho0 hB hbw hz0 hzs hzb
    go_enter Try.func50, Try.ntmps50
    go_wp2_with fail
    go_region_law (refine step_append_run rfl _ _ 45 45 rfl (.slice (some ⟨g, 0, none⟩) i c) (.slice (if c = i + 1 then some ⟨g, 0, none⟩ else some ⟨g, (i + 1) * 2, none⟩) (l0.length - (i + 1)) (c - (i + 1))) (by simp [Act.eval, Act.put]) (by simp [Act.eval, Act.put]) hrun ?_)
    go_wp2_with (at_builtin; refine wpList_clear_run _ rfl _ 45 rfl _ rfl (hcl _ _) ?_)
    all_goals go_ret
    all_goals first
      | exact ⟨_, rfl, hfin.out⟩
      | (have e : c = i + 1 := by assumption
         subst e
         exact ⟨_, rfl, hfin.out⟩)
  · cases h
end Go.Proofs.Ytobcpkeapjflhaa.Q
