/- channels.Sorted: the contract in the printer's form. -/
import Derived.Test.YtglikjpnlgciiaaDoorQx0
import Derived.Test.YtglikjpnlgciiaaDoorShelf
import Derived.Test.YtglikjpnlgciiaaDoorShelfS
import Derived.WalkKit
import Derived.Lib.Hide
import Derived.Lib.OwnBridge
import Derived.Lib.SortBridge
import Derived.Below
namespace Go.Proofs.YtglikjpnlgciiaaDoor.Q
open Go Go.RowKit Go.Proofs.YtglikjpnlgciiaaDoorW.PrintWords Go.Proofs.YtglikjpnlgciiaaDoorW.PrintLast Go.Proofs.YtglikjpnlgciiaaDoorW.PrintMore
set_option linter.unusedVariables false
set_option linter.unusedSimpArgs false
def srt (l : List Int) : List Int := l.mergeSort fun x y => decide (x ≤ y)
theorem srt_len (l : List Int) : (srt l).length = l.length := by unfold srt; exact List.length_mergeSort l
def channels_Sorted.f (l : List Int) : Option (List Int) := if l.length ≤ 1000000 then some (srt l) else none
theorem plain_addr {w : World} {ad : Addr} {k : Nat} {v : Value} (h0 : w.cell? (ad.add 0) = some v) : ad = ⟨ad.block, ad.off, none⟩ := by
  have h : w.cell? ad = some v := h0
  obtain ⟨b, o, s⟩ := ad
  cases s with
  | none => rfl
  | some x =>
    unfold World.cell? at h
    simp only [Option.isSome_some, if_true] at h
    split at h <;> cases h
/-- slices.Clone of a list that can be read. -/
theorem clone_int (A : Option Addr) (c : Nat) (l : List Int) (w : World) (hr : Kd.C (Kd.int .i64) w A l.length l) (hl : l.length ≤ 1000000) :
    Calls Tryd.prog 28 #[.slice A l.length c] w fun e w' => ∃ v, e = .returned v ∧ Below w.heap.size w w' ∧ ((l = [] ∧ v = .slice none 0 0) ∨ (w'.ownsRow w.heap.size 3 1 v l.length (l.map (Value.int .i64)) ∧ v ≠ .slice none 0 0)) := by
  cases A with
  | none =>
    have h0 : l = [] := by
      rcases Nat.eq_zero_or_pos l.length with h | h
      · exact List.length_eq_zero_iff.1 h
      · obtain ⟨ad, e, _⟩ := Kd.at_int hr 0 (by omega) (by omega)
        cases e
    subst h0
    refine (Tryd.slices_Clone_int_nil 0 c w).mono ?_
    rintro e w' ⟨rfl, rfl⟩
    exact ⟨_, rfl, Below.refl _ _, .inl ⟨rfl, rfl⟩⟩
  | some a =>
    rcases Nat.eq_zero_or_pos l.length with h | h
    · have h0 := List.length_eq_zero_iff.1 h
      subst h0
      refine (Tryd.slices_Clone_int_zero a c w).mono ?_
      rintro e w' ⟨v, rfl, ho, hn, hb⟩
      exact ⟨_, rfl, hb, .inr ⟨ho, hn⟩⟩
    · have hcell : ∀ j : Nat, j < l.length → w.cell? (a.add j) = some (.int .i64 (l.getD j 0)) := fun j hj => by
        obtain ⟨ad, e, hc⟩ := Kd.at_int hr (j : Int) (by omega) (by omega)
        injection e with e
        subst e
        rw [Int.toNat_natCast] at hc
        have : rd l (j : Int) = l.getD j 0 := by unfold rd; rw [Int.toNat_natCast]
        rwa [this] at hc
      have ha := plain_addr (k := 0) (hcell 0 h)
      obtain ⟨b, o, s⟩ := a
      obtain rfl : s = none := congrArg Addr.spot ha
      refine (Tryd.slices_Clone_int b o l.length c l w (Nat.le_refl _) (by omega) (fun j hj => by have := hcell j hj; rwa [Addr.add_lit] at this)).mono ?_
      rintro e w' ⟨v, rfl, ho, hn, hb⟩
      rw [List.take_length] at ho
      exact ⟨_, rfl, hb, .inr ⟨ho, hn⟩⟩
theorem below_grow {B : Nat} {w0 w : World} (h : Below B w0 w) (hB : B ≤ w.heap.size) (os : Array Obj) : Below B w0 (Sort.grow w os) := by
  refine ⟨h.os, h.tape, h.output, ?_, fun k hk => ?_⟩
  · have := h.size
    simp only [Sort.grow, Array.size_append]; omega
  · rw [← h.block k hk]
    exact Sort.heap_grow_old w os (by omega)
/-- slices.Sort of a list of the call's own. -/
theorem sort_int (g cap : Nat) (l : List Int) (w0 w : World) (hb : Below w0.heap.size w0 w) (hl : l.length ≤ 1000000) (ho : w.ownsRow w0.heap.size 3 1 (.slice (some ⟨g, 0, none⟩) l.length cap) l.length (l.map (Value.int .i64))) :
    Calls Tryd.prog 29 #[.slice (some ⟨g, 0, none⟩) l.length cap] w fun e w' => e = .returned (.tuple #[]) ∧ Below w0.heap.size w0 w' ∧ w'.ownsRow w0.heap.size 3 1 (.slice (some ⟨g, 0, none⟩) l.length cap) l.length ((srt l).map (Value.int .i64)) := by
  obtain ⟨g', cap', e, hg, hlt, _, _, _, hH⟩ := Lib.holds_of_ownsRow (zs := l) ho (by intro h; cases h)
  injection e with e1 _ e3
  injection e1 with e1
  injection e1 with e1
  subst e1; subst e3
  refine (Tryd.slices_Sort_int g 0 cap l w hH hlt (by omega)).mono ?_
  rintro e w' ⟨rfl, n, os, rfl⟩
  have h1 := Lib.ownsRow_putRow (q := n) (ys := srt l) ho (by rw [srt_len]) (Nat.le_refl _)
  have h2 := Lib.below_putRow (enc := Value.int .i64) (q := n) (d := (srt l).toArray) hb hg
  refine ⟨rfl, below_grow h2 h2.size os, ?_⟩
  rw [List.take_of_length_le (by rw [srt_len]; exact Nat.le_refl _)] at h1
  refine own_move h1 fun k hk => ?_
  have : g = k := by simpa [Value.ownBlock] using hk
  subst this
  refine Sort.heap_grow_old _ os ?_
  obtain ⟨cs, hcs⟩ := own_typed h1 g (by simp [Value.ownBlock])
  exact (Array.getElem?_eq_some_iff.1 hcs).1
set_option maxHeartbeats 1000000 in
theorem channels_Sorted.calls (A0 : Option Addr) (c0 : Nat) (l0 : List Int) (r : List Int) (w : World) (hr0 : Kd.C (Kd.int .i64) w A0 l0.length l0) (hc0 : l0.length ≤ c0) (h : channels_Sorted.f l0 = some r) :
    Calls Tryd.prog 18 #[.slice A0 l0.length c0] w fun e w' => ∃ v0_ : Value, e = .returned (v0_) ∧ Kd.R (Kd.int .i64) 3 w' w.heap.size (fun _ => True) v0_ r ∧ Below w.heap.size w w' := by
  unfold channels_Sorted.f at h
  split at h
  · rename_i hl
    obtain rfl := Option.some.inj h
    have HC := Lib.hid (clone_int A0 c0 l0 w hr0 hl)
    have HL := Lib.hid hl
    clear hr0 hc0 h hl
    go_enter Tryd.func18, Tryd.ntmps18
    go_wp2_with (go_at_call 28; refine HC.out.mono ?_; rintro e w1 ⟨v, rfl, hb, hv⟩; have HB := Lib.hid hb; have HV := Lib.hid hv; clear hb hv)
    rcases HV.out with ⟨h0, hv⟩ | ⟨ho, hn⟩
    · subst hv
      subst h0
      go_wp2_with (go_at_call 29; refine (Tryd.slices_Sort_int_none none 0 _).mono ?_; rintro e w2 ⟨rfl, rfl⟩)
      go_ret
      have e0 : srt [] = [] := List.length_eq_zero_iff.1 (srt_len [])
      rw [e0]
      exact ⟨.slice none 0 0, rfl, Kd.R_nil _ _ _ _ _, HB.out⟩
    · obtain ⟨g, cap, e, hg, hlt, _, _, _, hH⟩ := Lib.holds_of_ownsRow (zs := l0) ho hn
      subst e
      have HS := Lib.hid (sort_int g cap l0 w w1 HB.out HL.out ho)
      clear hg hlt hH ho hn HV
      go_wp2_with (go_at_call 29; refine HS.out.mono ?_; rintro e w2 ⟨rfl, hb2, ho2⟩; have HB2 := Lib.hid hb2; have HO2 := Lib.hid ho2; clear hb2 ho2)
      go_ret
      refine ⟨.slice (some ⟨g, 0, none⟩) l0.length cap, rfl, ?_, HB2.out⟩
      have h3 := HO2.out
      have e3 := srt_len l0
      rw [← e3] at h3 ⊢
      exact Kd.R_of_own (enc := Value.int .i64) (h1 := fun _ => rfl) h3 (fun _ _ => trivial)
  · cases h
end Go.Proofs.YtglikjpnlgciiaaDoor.Q
