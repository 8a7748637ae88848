/- channels.Format: the contract in the printer's form. -/
import Derived.Test.YtglikjpnlgciiaaDoorQx0
import Derived.Test.YtglikjpnlgciiaaDoorShelf
import Derived.WalkKit
import Derived.LoopTactic
import Derived.Lib.Hide
import Derived.ChangeAlike
import Derived.Below
import Derived.Shelf.Abstract
namespace Go.Proofs.YtglikjpnlgciiaaDoor.Q
open Go Go.RowKit Go.Proofs.YtglikjpnlgciiaaDoorW.PrintWords Go.Proofs.YtglikjpnlgciiaaDoorW.PrintLast Go.Proofs.YtglikjpnlgciiaaDoorW.PrintMore
set_option linter.unusedVariables false
set_option linter.unusedSimpArgs false
theorem info9 : (Tryd.prog.info? 9).map (fun i => (i.zero, i.size, i.bytes)) = some (some (.string ⟨#[]⟩), 1, 16) := by kernel_rfl
/-- The positions' names, as the variable holds them. -/
def nmsL : List ByteArray := [⟨#[63]⟩, ⟨#[70, 76]⟩, ⟨#[70, 82]⟩, ⟨#[70, 67]⟩, ⟨#[76, 70]⟩, ⟨#[66, 76]⟩, ⟨#[66, 82]⟩, ⟨#[83, 76]⟩, ⟨#[83, 82]⟩]
def nms (j : Nat) : ByteArray := nmsL.getD j ByteArray.empty
/-- What the walks need of the package-level variables: the names, and that the library's word has a number. -/
def Gl (w : World) : Prop := (∀ j, j < 9 → w.cell? ⟨0, j, none⟩ = some (.string (nms j))) ∧ ∃ m, w.cell? ⟨1, 0, none⟩ = some (.int .i64 m)
theorem cell_lt {w : World} {b j : Nat} {v : Value} (h : w.cell? ⟨b, j, none⟩ = some v) : b < w.heap.size := by
  unfold World.cell? at h
  rcases Nat.lt_or_ge b w.heap.size with h1 | h1
  · exact h1
  · rw [Array.getElem?_eq_none h1] at h
    simp at h
theorem Gl.below {w w' : World} (h : Gl w) (hb : Below w.heap.size w w') : Gl w' :=
  ⟨fun j hj => (hb.cell (p := ⟨0, j, none⟩) (cell_lt (h.1 j hj))).trans (h.1 j hj), h.2.imp fun m hm => (hb.cell (p := ⟨1, 0, none⟩) (cell_lt hm)).trans hm⟩
/-- The name of a position, '?' of any other number. -/
def nmOf (p : Int) : ByteArray := if 1 ≤ p ∧ p ≤ 8 then nms p.toNat else nms 0
def fmt (l : List Int) : ByteArray := ⟨(Lib.join ((l.map nmOf).map (·.data.toList)) [44]).toArray⟩
def channels_Format.f (l : List Int) : Option ByteArray := if l.length ≤ 1000000 then some (fmt l) else none
theorem nms_size (j : Nat) : (nms j).size ≤ 2 := by
  unfold nms
  rcases Nat.lt_or_ge j 9 with h | h
  · have : ∀ j : Fin 9, (nmsL.getD j.val ByteArray.empty).size ≤ 2 := by decide +kernel
    exact this ⟨j, h⟩
  · have : nmsL.getD j ByteArray.empty = ByteArray.empty := by
      rw [List.getD_eq_getElem?_getD, List.getElem?_eq_none (show nmsL.length ≤ j from h)]; rfl
    rw [this]; decide
theorem join_calls {W : World} {base : Nat} {ok : Nat → Prop} {v : Value} {xs : List ByteArray} (HO : Kd.R Kd.string 9 W base ok v xs) (hN : xs.length ≤ 1000000) (hj : (Lib.join (xs.map (·.data.toList)) [44]).length ≤ 140737488355328) :
    Calls Tryd.prog 24 #[v, .string ⟨#[44]⟩] W fun e w' => e = .returned (.string ⟨(Lib.join (xs.map (·.data.toList)) [44]).toArray⟩) ∧ Below W.heap.size W w' := by
  rcases xs with _ | ⟨x, xs⟩
  · obtain ⟨A, c, rfl⟩ := Kd.R_slice HO
    refine (Tryd.strings_Join_none A c ⟨#[44]⟩ W).mono ?_
    rintro e w' ⟨rfl, rfl⟩
    exact ⟨rfl, Below.refl _ _⟩
  · have hrow := HO.2
    obtain ⟨inner, hown, hr⟩ := hrow
    rcases hown.2 with ⟨hv, h0⟩ | ⟨g, cap, cur, hv, hb, hh, hmc, hcm, hcs, htake⟩
    · subst hv
      have := (Kd.R_reads' HO).1
      simp at this
    · subst hv
      obtain ⟨h1, h2, h3⟩ := Kd.R_reads' HO
      clear h1
      refine (Tryd.strings_Join g 0 cap (x :: xs) ⟨#[44]⟩ W ?_ (Array.getElem?_eq_some_iff.1 hh).1 (by omega) h2 hj).mono ?_
      · intro j y hy
        have hjl : j < (x :: xs).length := (List.getElem?_eq_some_iff.1 hy).1
        obtain ⟨ad, he, hc⟩ := Kd.at_string h3 (j : Int) (by omega) (by omega)
        injection he with he
        subst he
        rw [Int.toNat_natCast] at hc
        have hrd : rdOf ByteArray.empty (x :: xs) (j : Int) = y := by
          unfold rdOf
          simp [hy]
        rw [hrd] at hc
        have e : (⟨g, 0, none⟩ : Addr).add j = ⟨g, 0 + j, none⟩ := by unfold Addr.add; split <;> simp_all
        rwa [e] at hc
      · rintro e w' ⟨rfl, hb1⟩
        exact ⟨rfl, hb1⟩
set_option maxHeartbeats 4000000 in
set_option maxRecDepth 100000 in
theorem channels_Format.walk (A0 : Option Addr) (c0 : Nat) (l : List Int) (w : World) (hr0 : Kd.C (Kd.int .i64) w A0 l.length l) (hc0 : l.length ≤ c0) (hlen : l.length ≤ 1000000) (hG : Gl w)
    (hj : (Lib.join ((l.map nmOf).map (·.data.toList)) [44]).length ≤ 140737488355328) :
    Calls Tryd.prog 11 #[.slice A0 l.length c0] w fun e w' => e = .returned (.string (fmt l)) ∧ Below w.heap.size w w' := by
  have HG := Lib.hid hG
  have HR0 := Lib.hid hr0
  have HJ := Lib.hid hj
  generalize hFF : fmt l = F
  have HFF := Lib.hid hFF
  clear hFF
  have hi9 := info9
  clear hG hr0 hj
  go_enter Tryd.func11, Tryd.ntmps11
  go_wp2
  go_loopw [8, 3] (fun t v wr => ∃ k : Nat, k ≤ l.length ∧ t = .int .i64 k ∧ Aside0 (Kd.R Kd.string 9 wr w.heap.size (fun _ => True) v ((l.take k).map nmOf)) ∧ Aside0 (Below w.heap.size w wr)) (fun t _ _ => l.length - (intOf t).toNat)
  case atStart => exact ⟨0, by omega, rfl, ⟨Kd.R_nil _ _ _ _ _⟩, ⟨Below.refl _ _⟩⟩
  case round =>
    obtain ⟨k, hk, rfl, hR, hB⟩ := hrel
    by_cases hkl : k < l.length
    · obtain ⟨ad, rfl, hcell⟩ := Kd.at_int (Kd.C_below HR0.out hB.out) (k : Int) (by omega) (by omega)
      rw [Int.toNat_natCast] at hcell
      have hrd : rd l (k : Int) = l[k] := by unfold rd; simp [hkl]
      have htk : (l.take (k + 1)).map nmOf = (l.take k).map nmOf ++ [nmOf l[k]] := by rw [List.take_succ_eq_append_getElem hkl, List.map_append]; rfl
      have HT := Lib.hid htk
      have hll : ((l.take k).map nmOf).length = k := by rw [List.length_map, List.length_take]; omega
      have HLL := Lib.hid hll
      have hG2 := Lib.hid (HG.out.below hB.out)
      obtain ⟨Av, cv, rfl⟩ := Kd.R_slice hR.out
      rw [hrd] at hcell
      have hnm : ∀ q : Int, q = l[k] → nmOf q = nmOf l[k] := fun q hq => by rw [hq]
      generalize hpp : l[k] = p at hcell HT hnm
      clear htk hll hrd hpp hnm
      have q0 : (0 : Int) ≤ (k : Int) := by omega
      have q1 : (k : Int) < (l.length : Int) := by omega
      have q2 : wrap64 ((k : Int) + 1) = ((k + 1 : Nat) : Int) := by unfold wrap64; omega
      have hn := HG.out.below hB.out
      by_cases h1 : p < 1
      · have hnm : nmOf p = nms 0 := by unfold nmOf; rw [if_neg (by omega)]
        have c0_ := hn.1 0 (by omega)
        clear hn
        go_wp2_with ((with_reducible refine gate_builtin (b := .append) (xs := #[.tmp 18, .tmp 22]) rfl ?_); at_builtin; refine Kd.R_append Kd.string (w0 := w) w.heap.size rfl (.tmp 18) (.tmp 22) 36 9 (.string ⟨#[]⟩) 16 rfl Tryd.underlying36 hi9 rfl (by decide) (by omega) (.slice Av ((l.take k).map nmOf).length cv) ((l.take k).map nmOf) (nms 0) [.string (nms 0)] (fun _ => True) (fun _ => False) rfl rfl rfl (fun _ hk => hk.elim) (fun _ _ => trivial) hR.out hB.out hB.out.size (by rw [HLL.out]; omega) ?_; intro v1 w1 ho hb hg hat; have HO := Lib.hid ho; have HBN := Lib.hid hb; clear ho hb hg hat)
        go_roundw
        case measure => simp only [intOf]; omega
        case rel => exact ⟨k + 1, by omega, by simp, ⟨by rw [HT.out, hnm]; exact HO.out⟩, ⟨HBN.out⟩⟩
      · by_cases h2 : p > 8
        · have hnm : nmOf p = nms 0 := by unfold nmOf; rw [if_neg (by omega)]
          have c0_ := hn.1 0 (by omega)
          clear hn
          go_wp2_with ((with_reducible refine gate_builtin (b := .append) (xs := #[.tmp 18, .tmp 22]) rfl ?_); at_builtin; refine Kd.R_append Kd.string (w0 := w) w.heap.size rfl (.tmp 18) (.tmp 22) 36 9 (.string ⟨#[]⟩) 16 rfl Tryd.underlying36 hi9 rfl (by decide) (by omega) (.slice Av ((l.take k).map nmOf).length cv) ((l.take k).map nmOf) (nms 0) [.string (nms 0)] (fun _ => True) (fun _ => False) rfl rfl rfl (fun _ hk => hk.elim) (fun _ _ => trivial) hR.out hB.out hB.out.size (by rw [HLL.out]; omega) ?_; intro v1 w1 ho hb hg hat; have HO := Lib.hid ho; have HBN := Lib.hid hb; clear ho hb hg hat)
          go_roundw
          case measure => simp only [intOf]; omega
          case rel => exact ⟨k + 1, by omega, by simp, ⟨by rw [HT.out, hnm]; exact HO.out⟩, ⟨HBN.out⟩⟩
        · obtain ⟨m, rfl⟩ : ∃ m : Nat, p = (m : Int) := ⟨p.toNat, by omega⟩
          have hnm : nmOf (m : Int) = nms m := by unfold nmOf; rw [if_pos (by omega)]; simp
          have c0_ := hn.1 m (by omega)
          have q3 : (0 : Int) ≤ (m : Int) := by omega
          have q4 : (m : Int) < 9 := by omega
          clear hn
          go_wp2_with ((with_reducible refine gate_builtin (b := .append) (xs := #[.tmp 18, .tmp 22]) rfl ?_); at_builtin; refine Kd.R_append Kd.string (w0 := w) w.heap.size rfl (.tmp 18) (.tmp 22) 36 9 (.string ⟨#[]⟩) 16 rfl Tryd.underlying36 hi9 rfl (by decide) (by omega) (.slice Av ((l.take k).map nmOf).length cv) ((l.take k).map nmOf) (nms m) [.string (nms m)] (fun _ => True) (fun _ => False) rfl rfl rfl (fun _ hk => hk.elim) (fun _ _ => trivial) hR.out hB.out hB.out.size (by rw [HLL.out]; omega) ?_; intro v1 w1 ho hb hg hat; have HO := Lib.hid ho; have HBN := Lib.hid hb; clear ho hb hg hat)
          go_roundw
          case measure => simp only [intOf]; omega
          case rel => exact ⟨k + 1, by omega, by simp, ⟨by rw [HT.out, hnm]; exact HO.out⟩, ⟨HBN.out⟩⟩
    · obtain rfl : k = l.length := by omega
      rw [List.take_length] at hR
      have hJ : Calls Tryd.prog 24 #[u3, .string ⟨#[44]⟩] wr fun e w' => e = .returned (.string (fmt l)) ∧ Below wr.heap.size wr w' := join_calls hR.out (by rw [List.length_map]; omega) HJ.out
      rw [HFF.out] at hJ
      replace hJ := Lib.hid hJ
      go_wp2_with (go_at_call 24; refine hJ.out.mono ?_; rintro e w1 ⟨rfl, hb1⟩)
      go_ret
      exact ⟨rfl, below_step hB.out hb1⟩
theorem nm_len (p : Int) : (nmOf p).data.toList.length ≤ 2 := by
  have : ∀ j, (nms j).data.toList.length ≤ 2 := fun j => by have h := nms_size j; rwa [ByteArray.size, ← Array.length_toList] at h
  unfold nmOf
  split <;> exact this _
theorem join_len (l : List Int) : (Lib.join ((l.map nmOf).map (·.data.toList)) [44]).length ≤ 3 * l.length := by
  induction l with
  | nil => decide
  | cons p l ih =>
    have := nm_len p
    cases l with
    | nil => simp only [List.map_cons, List.map_nil, Lib.join, List.intercalate_singleton, List.length_cons, List.length_nil]; omega
    | cons q l =>
      simp only [List.map_cons, Lib.join, List.intercalate_cons_cons, List.length_append, List.length_cons, List.length_nil] at ih ⊢
      omega
theorem channels_Format.calls (A0 : Option Addr) (c0 : Nat) (l0 : List Int) (r : ByteArray) (w : World) (hr0 : Kd.C (Kd.int .i64) w A0 l0.length l0) (hc0 : l0.length ≤ c0) (h : channels_Format.f l0 = some r) (hG : Gl w) :
    Calls Tryd.prog 11 #[.slice A0 l0.length c0] w fun e w' => e = .returned (.string r) ∧ Below w.heap.size w w' := by
  unfold channels_Format.f at h
  split at h
  · rename_i hl
    injection h with h
    subst h
    exact channels_Format.walk A0 c0 l0 w hr0 hc0 hl hG (by have := join_len l0; omega)
  · cases h
end Go.Proofs.YtglikjpnlgciiaaDoor.Q
