/- channels.Parse: the contract in the printer's form. -/
import Derived.Test.YtglikjpnlgciiaaDoorChF
import Derived.Test.YtglikjpnlgciiaaDoorQx1
namespace Go.Proofs.YtglikjpnlgciiaaDoor.Q
open Go Go.RowKit Go.Proofs.YtglikjpnlgciiaaDoorW.PrintWords Go.Proofs.YtglikjpnlgciiaaDoorW.PrintLast Go.Proofs.YtglikjpnlgciiaaDoorW.PrintMore
set_option linter.unusedVariables false
set_option linter.unusedSimpArgs false
/-- Which maps are valid. -/
def okf (seen : List Int) : List Int → Bool
  | [] => true
  | p :: r => decide (1 ≤ p ∧ p ≤ 8) && !decide (p ∈ seen) && okf (seen ++ [p]) r
def vld (m : List Int) : Bool := decide (1 ≤ m.length ∧ m.length ≤ 8) && okf [] m
/-- A position's place among the names. -/
def idx (x : ByteArray) : Int := Lib.idxOfS (nmsL.drop 1) x
/-- What Parse tells of the pieces of a text, behind the positions that were read. -/
def prs (m : List Int) : List ByteArray → List Int × Int
  | [] => if vld m = true then (m, 0) else ([], 1)
  | x :: r => if idx x < 0 then ([], 5) else prs (m ++ [idx x + 1]) r
def pieces (s : ByteArray) : List ByteArray := Lib.splitB ⟨#[44]⟩ 0 (Lib.countB s ⟨#[44]⟩) s
def channels_Parse.f (s : ByteArray) : Option (List Int × Int) := if s.size ≤ 1000000 then some (prs [] (pieces s)) else none
theorem idx_le (x : ByteArray) : -1 ≤ idx x ∧ idx x < 8 := by
  unfold idx Lib.idxOfS nmsL
  simp only [List.drop_succ_cons, List.drop_zero, Lib.idxFromS]
  repeat' split
  all_goals omega
set_option maxHeartbeats 4000000 in
set_option maxRecDepth 100000 in
theorem channels_Parse.walk (hV : ∀ m : List Int, ∃ k, channels_Valid.f k m = some (vld m)) (s : ByteArray) (w : World) (hs : s.size ≤ 1000000) (hG : Gl w) (hlen : (pieces s).length = Lib.countB s ⟨#[44]⟩ + 1) (hcl : (pieces s).length ≤ 1000001) :
    Calls Tryd.prog 8 #[.string s] w fun e w' => ∃ v0_ : Value, e = .returned (.tuple #[v0_, .int .i64 (prs [] (pieces s)).2]) ∧ Kd.R (Kd.int .i64) 3 w' w.heap.size (fun _ => True) v0_ (prs [] (pieces s)).1 ∧ Below w.heap.size w w' := by
  have HG := Lib.hid hG
  have HV := Lib.hid hV
  obtain ⟨m0, hm0⟩ := hG.2
  have HS := Lib.hid (Tryd.strings_Split s ⟨#[44]⟩ m0 w (by omega) hm0 (by decide))
  rw [← hlen] at HS
  have HI3 := Lib.hid info3
  have e0 : Lib.splitB ⟨#[44]⟩ 0 (Lib.countB s ⟨#[44]⟩) s = pieces s := rfl
  rw [e0] at HS
  clear hG hV hm0 hlen e0
  obtain ⟨ps, hps⟩ : ∃ ps, pieces s = ps := ⟨_, rfl⟩
  rw [hps] at HS hcl ⊢
  clear hps
  obtain ⟨R, hR⟩ : ∃ R, prs [] ps = R := ⟨_, rfl⟩
  rw [hR]
  have HRR := Lib.hid hR
  clear hR
  go_enter Tryd.func8, Tryd.ntmps8
  go_wp2_with (go_at_call 22; refine HS.out.mono ?_; rintro e w1 ⟨rfl, rfl⟩)
  generalize hw1 : w.alloc _ = w1
  have hb1 : Aside0 (Below w.heap.size w w1) := ⟨by rw [← hw1]; exact (Below.refl _ _).alloc (Nat.le_refl _) _⟩
  have hC1 : Aside0 (w1.heap[w.heap.size]? = some (.cells (ps.map Value.string).toArray 9 (0, 0))) := ⟨by rw [← hw1]; exact Array.getElem?_push_size⟩
  clear hw1 HS
  go_loopw [11, 4] (fun t v wr => ∃ (k : Nat) (m : List Int), k ≤ ps.length ∧ t = .int .i64 k ∧ Aside0 (m.length = k) ∧ Aside0 (prs m (ps.drop k) = R) ∧ Aside0 (Kd.R (Kd.int .i64) 3 wr w.heap.size (fun k_ => k_ ≠ w.heap.size) v m) ∧ Aside0 (Below w.heap.size w wr) ∧ Aside0 (wr.heap[w.heap.size]? = some (.cells (ps.map Value.string).toArray 9 (0, 0)))) (fun t _ _ => ps.length - (intOf t).toNat)
  case atStart => exact ⟨0, [], by omega, rfl, ⟨rfl⟩, ⟨HRR.out⟩, ⟨Kd.R_nil _ _ _ _ _⟩, hb1, hC1⟩
  case round =>
    obtain ⟨k, m, hk, rfl, hmk, hP, hR, hB, hC⟩ := hrel
    by_cases hkl : k < ps.length
    · have hcell : wr.cell? ⟨w.heap.size, k, none⟩ = some (.string ps[k]) := by
        simp only [World.cell?, hC.out]
        simp [hkl]
      have hdr : ps.drop k = ps[k] :: ps.drop (k + 1) := List.drop_eq_getElem_cons hkl
      have hP2 := hP.out
      rw [hdr, prs] at hP2
      have hg := HG.out.below hB.out
      have hix : Calls Tryd.prog 23 #[.slice (some ⟨0, 1, none⟩) 8 8, .string ps[k]] wr fun e w' => e = .returned (.int .i64 (idx ps[k])) ∧ w' = wr := by
        have := Tryd.slices_Index_string 0 1 8 8 (nmsL.drop 1) ps[k] wr (by decide) (by decide) (fun j hj => by
          have hj2 : j < 8 := hj
          have h := hg.1 (1 + j) (by omega)
          rw [h]
          have : ∀ j : Fin 8, nms (1 + j.val) = (nmsL.drop 1).getD j.val ByteArray.empty := by decide +kernel
          exact congrArg (fun x => some (Value.string x)) (this ⟨j, hj2⟩))
        exact this
      have hle := idx_le ps[k]
      have hlt : w.heap.size < wr.heap.size := (Array.getElem?_eq_some_iff.1 hC.out).1
      have HIX := Lib.hid hix
      generalize ps[k] = x at *
      generalize idx x = ix at *
      have HP2 := Lib.hid hP2
      obtain ⟨Av, cv, rfl⟩ := Kd.R_slice hR.out
      have q0 : (0 : Int) ≤ (k : Int) := by omega
      have q1 : (k : Int) < (ps.length : Int) := by omega
      have q2 : wrap64 ((k : Int) + 1) = ((k + 1 : Nat) : Int) := by unfold wrap64; omega
      have q3 : wrap64 (ix + 1) = ix + 1 := by unfold wrap64; omega
      clear hix hdr hP2 hg
      by_cases hi : ix < 0
      · go_wp2_with (go_at_call 23; refine HIX.out.mono ?_; rintro e w1 ⟨rfl, rfl⟩)
        have hRR : (([] : List Int), (5 : Int)) = R := by have h := HP2.out; rwa [if_pos hi] at h
        subst hRR
        go_ret2
        exact ⟨_, rfl, Kd.R_nil _ _ _ _ _, hB.out⟩
      · go_wp2_with (first | (go_at_call 23; refine HIX.out.mono ?_; rintro e w1 ⟨rfl, rfl⟩) | ((with_reducible refine gate_builtin (b := .append) (xs := #[.tmp 20, .tmp 23]) rfl ?_); at_builtin; refine Kd.R_append (Kd.int .i64) (w0 := w) w.heap.size rfl (.tmp 20) (.tmp 23) 22 3 (.int .i64 0) 8 rfl Tryd.underlying22 HI3.out rfl (by decide) (by omega) (.slice Av m.length cv) m (ix + 1) [.int .i64 (ix + 1)] (fun k_ => k_ ≠ w.heap.size) (fun _ => False) rfl rfl rfl (fun _ hk => hk.elim) (fun k_ hk_ => Nat.ne_of_gt (Nat.lt_of_lt_of_le hlt hk_)) hR.out hB.out hB.out.size (by rw [hmk.out]; omega) ?_; intro v1 w1 ho hb hg hat; have HO := Lib.hid ho; have HBN := Lib.hid hb; have HGR := Lib.hid hg; clear ho hb hg hat))
        have hRR : prs (m ++ [ix + 1]) (ps.drop (k + 1)) = R := by have h := HP2.out; rwa [if_neg (show ¬ ix < 0 by omega)] at h
        go_roundw
        case measure => simp only [intOf]; omega
        case rel => exact ⟨k + 1, m ++ [ix + 1], by omega, by simp, ⟨by rw [List.length_append, hmk.out]; rfl⟩, ⟨hRR⟩, ⟨HO.out⟩, ⟨HBN.out⟩, ⟨blk_grown hC.out HGR.out (fun e => hR.out.1 _ e.symm rfl)⟩⟩
    · obtain rfl : k = ps.length := by omega
      have hP2 := hP.out
      rw [List.drop_length, prs] at hP2
      obtain ⟨Av, cv, rfl⟩ := Kd.R_slice hR.out
      obtain ⟨_, h2, h3⟩ := Kd.R_reads' hR.out
      obtain ⟨kv, hkv⟩ := HV.out m
      have HC := Lib.hid (channels_Valid.calls kv Av cv m (vld m) wr h3 h2 hkv)
      have HP2 := Lib.hid hP2
      clear hP2 hkv h2 h3
      generalize vld m = b at *
      cases b
      · go_wp2_with (go_at_call 13; refine HC.out.mono ?_; rintro e w1 ⟨rfl, ⟨n1, rfl⟩⟩)
        have hRR : (([] : List Int), (1 : Int)) = R := by have h := HP2.out; rwa [if_neg (by decide)] at h
        subst hRR
        go_ret2
        exact ⟨_, rfl, Kd.R_nil _ _ _ _ _, pw_below_drewN hB.out _⟩
      · go_wp2_with (go_at_call 13; refine HC.out.mono ?_; rintro e w1 ⟨rfl, ⟨n1, rfl⟩⟩)
        have hRR : (m, (0 : Int)) = R := by have h := HP2.out; simpa using h
        subst hRR
        go_ret2
        exact ⟨_, rfl, Kd.R_drewN (Kd.R_mono hR.out (fun _ _ => trivial)) _, pw_below_drewN hB.out _⟩
theorem pieces_len (s : ByteArray) : (pieces s).length = Lib.countB s ⟨#[44]⟩ + 1 := Lib.splitB_all ⟨#[44]⟩ (by decide) 0 _ s rfl
theorem pieces_le (s : ByteArray) : (pieces s).length ≤ s.size + 1 := by
  rw [pieces_len]
  have := Lib.countB_le ⟨#[44]⟩ (by decide) s.size s (Nat.le_refl _)
  omega
theorem w64 {n : Int} (h0 : -9223372036854775808 ≤ n) (h1 : n ≤ 9223372036854775807) : wrap64 n = n := by unfold wrap64; omega
theorem rd_at (l : List Int) (i : Nat) (h : i < l.length) : rd l (i : Int) = l[i] := by unfold rd; simp [h]
/-- The first place of a number, from a place on. -/
def fi (x : Int) (i : Nat) : List Int → Int
  | [] => -1
  | y :: r => if x = y then (i : Int) else fi x (i + 1) r
theorem fi_mem (x : Int) (l : List Int) : ∀ i, decide (fi x i l ≥ 0) = decide (x ∈ l) := by
  induction l with
  | nil => intro i; simp [fi]
  | cons y l ih =>
    intro i
    rw [fi]
    by_cases h : x = y
    · simp [h]
    · rw [if_neg h, ih]; simp [h]
theorem index_l0 (x : Int) (l : List Int) (hl : l.length ≤ 4611686018427387904) (d : Nat) : ∀ (k i : Nat), i + d = l.length → d < k → slices_Index_int_int.l0 k l x (l.length : Int) (i : Int) = some (fi x i (l.drop i)) := by
  induction d with
  | zero =>
    intro k i h hk
    obtain ⟨k, rfl⟩ : ∃ m, k = m + 1 := ⟨k - 1, by omega⟩
    rw [slices_Index_int_int.l0, if_neg (by omega), List.drop_of_length_le (by omega)]; rfl
  | succ d ih =>
    intro k i h hk
    obtain ⟨k, rfl⟩ : ∃ m, k = m + 1 := ⟨k - 1, by omega⟩
    have hi : i < l.length := by omega
    rw [slices_Index_int_int.l0, if_pos (by omega), if_pos (by omega), if_pos (by omega), rd_at l i hi, w64 (n := (i : Int) + 1) (by omega) (by omega), List.drop_eq_getElem_cons hi, fi]
    have h2 := ih k (i + 1) (by omega) (by omega)
    rw [Int.natCast_succ] at h2
    rw [h2]
    split <;> rfl
theorem contains_f (k : Nat) (x : Int) (l : List Int) (hl : l.length ≤ 4611686018427387904) (hk : l.length < k) : slices_Contains_int_int.f k l x = some (decide (x ∈ l)) := by
  unfold slices_Contains_int_int.f slices_Index_int_int.f
  have := index_l0 x l hl l.length k 0 (by omega) hk
  rw [show ((0 : Nat) : Int) = 0 from rfl] at this
  rw [this, Option.bind_some, List.drop_zero, fi_mem]
theorem valid_l0 (m : List Int) (hl : m.length ≤ 8) (d : Nat) : ∀ (k i : Nat), i + d = m.length → d + 10 < k → channels_Valid.l0 k m m (m.length : Int) (i : Int) = some (okf (m.take i) (m.drop i)) := by
  induction d with
  | zero =>
    intro k i h hk
    obtain ⟨k, rfl⟩ : ∃ m, k = m + 1 := ⟨k - 1, by omega⟩
    rw [channels_Valid.l0, if_neg (by omega), List.drop_of_length_le (by omega)]; rfl
  | succ d ih =>
    intro k i h hk
    obtain ⟨k, rfl⟩ : ∃ m, k = m + 1 := ⟨k - 1, by omega⟩
    have hi : i < m.length := by omega
    rw [channels_Valid.l0, if_pos (by omega), if_pos (by omega), if_pos (by omega), rd_at m i hi, Int.toNat_natCast, List.drop_eq_getElem_cons hi, okf]
    by_cases c1 : m[i] < 1
    · rw [if_pos c1, decide_eq_false (by omega)]; rfl
    · rw [if_neg c1]
      by_cases c2 : m[i] > 8
      · rw [if_pos c2, decide_eq_false (by omega)]; rfl
      · rw [if_neg c2, if_pos (by omega), contains_f k _ _ (by rw [List.length_take]; omega) (by rw [List.length_take]; omega), decide_eq_true (show 1 ≤ m[i] ∧ m[i] ≤ 8 by omega)]
        simp only [Option.bind_some]
        cases hm : decide (m[i] ∈ m.take i)
        · have h2 := ih k (i + 1) (by omega) (by omega)
          rw [Int.natCast_succ] at h2
          rw [if_neg (by decide), w64 (by omega) (by omega), h2, List.take_succ_eq_append_getElem hi]
          simp
        · simp
theorem valid_f (m : List Int) (k : Nat) (hk : 22 ≤ k) : channels_Valid.f k m = some (vld m) := by
  obtain ⟨k, rfl⟩ : ∃ m, k = m + 1 := ⟨k - 1, by omega⟩
  unfold channels_Valid.f vld
  simp only [channels_Valid.j0]
  by_cases h1 : (m.length : Int) < 1
  · rw [if_pos h1, decide_eq_false (by omega)]; rfl
  · rw [if_neg h1]
    by_cases h2 : (m.length : Int) > 8
    · rw [decide_eq_true h2, decide_eq_false (by omega)]; rfl
    · rw [decide_eq_false h2, decide_eq_true (by omega)]
      have := valid_l0 m (by omega) m.length k 0 (by omega) (by omega)
      simpa using this
theorem channels_Parse.calls (a0 : ByteArray) (r1 : List Int) (r2 : Int) (w : World) (h : channels_Parse.f a0 = some (r1, r2)) (hG : Gl w) :
    Calls Tryd.prog 8 #[.string a0] w fun e w' => ∃ v0_ : Value, e = .returned (.tuple #[v0_, .int .i64 r2]) ∧ Kd.R (Kd.int .i64) 3 w' w.heap.size (fun _ => True) v0_ r1 ∧ Below w.heap.size w w' := by
  unfold channels_Parse.f at h
  split at h
  · rename_i hs
    have hl := pieces_le a0
    have e : prs [] (pieces a0) = (r1, r2) := by injection h
    have hw := channels_Parse.walk (fun m => ⟨22, valid_f m 22 (by omega)⟩) a0 w hs hG (pieces_len a0) (by omega)
    rw [e] at hw
    exact hw
  · cases h
end Go.Proofs.YtglikjpnlgciiaaDoor.Q
