-- Declarations of the text that this claim uses (slim.py, a program of this session).
import Derived.Test.YtobcpkeapjflhaaZComesW
import Derived.Deep.LoopGhost
import Derived.Shelf.Abstract
namespace Go.Proofs.Ytobcpkeapjflhaa.ComesW
open Go Go.RowKit Go.Proofs.Ytobcpkeapjflhaa.Q Go.Proofs.YtobcpkeapjflhaaW.PrintWords Go.Proofs.YtobcpkeapjflhaaW.PrintLast Go.Proofs.YtobcpkeapjflhaaW.PrintMore
set_option linter.unusedVariables false
set_option linter.unusedSimpArgs false
def PC.T21 : Bool × List (List Nat × List Nat) := (true, [([], []), ([], []), ([0, 1], [0, 1]), ([2], [2]), ([3], [3]), ([3], [3]), ([4, 5, 3], [3, 4, 5]), ([3, 6], [3, 6]), ([7, 3], [7]), ([8], [8]), ([8], [8]), ([9, 10, 8, 8], [8, 9, 10]), ([11, 8], [8, 11]), ([8, 12], [8, 12]), ([13, 11], [13]), ([14], [14]), ([14], [14]), ([15, 16, 14, 14], [14, 15, 16]), ([17, 14], [14, 17]), ([14, 18], [14, 18]), ([19, 17], [19]), ([20], [20]), ([20], [20]), ([21, 22, 20, 20], [20, 21, 22]), ([20], [20]), ([20], [20]), ([24, 25, 23, 20], [20, 24, 25]), ([23, 26, 26, 20], [20, 23, 26]), ([27, 20], [20, 27]), ([20, 28], [20, 28])])
def PC.B21 : List Nat := [0, 0, 3, 7, 15, 15, 63, 127, 255, 511, 511, 2047, 4095, 8191, 16383, 32767, 32767, 131071, 262143, 524287, 1048575, 2097151, 2097151, 8388607, 2097151, 2097151, 67108863, 134217727, 268435455, 536870911]
theorem PC.tab21 : rtab .any (opsOf Try.f8 21) = PC.T21 := by kernel_rfl
theorem PC.bits21 : waitsOk PC.T21.2 PC.B21 = true := by kernel_rfl
theorem alloc_at (W : World) (o : Obj) : (W.alloc o).heap[W.heap.size]? = some o := Array.getElem?_push_size
theorem alloc_at1 (W : World) (o o1 : Obj) : ((W.alloc o).alloc o1).heap[W.heap.size + 1]? = some o1 := by
  have := alloc_at (W.alloc o) o1
  rwa [show (W.alloc o).heap.size = W.heap.size + 1 from by simp] at this
theorem hep {W w' : World} {b : Nat} {o : Obj} (h : W.heap[b]? = some o) (hb : Below W.heap.size W w') : w'.heap[b]? = some o := (hb.block b (Array.getElem?_eq_some_iff.1 h).1).trans h
theorem cel {W w' : World} {b : Nat} {cs : Array Value} {t : TypeId} (h : W.heap[b]? = some (.cells cs t (0, 0))) (hb : Below W.heap.size W w') (j : Nat) (v : Value) (hv : cs[j]? = some v) : w'.cell? ⟨b, j, none⟩ = some v := by
  have hlt : b < W.heap.size := (Array.getElem?_eq_some_iff.1 h).1
  rw [hb.cell (p := ⟨b, j, none⟩) hlt]
  simp only [World.cell?, h]
  exact hv
set_option maxHeartbeats 4000000 in
set_option maxRecDepth 100000 in
theorem walk {V : Int → List T → Bool} {P : Int → List T → Int → Int → Int × List T × Int} {U : Int → List T → Int → Int × List T × Int} {D : Int → List T → Int → List Int} (F : Facts V P U D)
    (A0 : Option Addr) (c0 : Nat) (l : List Int) (s1 : Int) (A1 : Option Addr) (c1 : Nat) (xs : List T) (id at_ now : Int) (w : World)
    (hr0 : Rd (Kd.int .i64) w A0 c0 l) (hr1 : Rd k68 w A1 c1 xs) :
    Calls Try.prog 8 #[.slice A0 l.length c0, .agg #[.int .i64 s1, .slice A1 xs.length c1], .int .u64 id, .int .i64 at_, .int .i64 now] w fun e w' => e = .returned (.bool true) ∧ Below w.heap.size w w' := by
  have HF := Lib.hid F
  have HR0 := Lib.hid hr0
  have HR1 := Lib.hid hr1
  have hlen : xs.length ≤ 9223372036854775807 := hr1.1.2.1
  have hge : (0 : Int) ≤ (xs.length : Int) := by omega
  clear F hr0 hr1
  have HB1 : ∀ {W : World} {o : Obj} {W1 : World}, Below (W.alloc o).heap.size (W.alloc o) W1 → Below W.heap.size W W1 := fun h => ((Below.refl _ _).alloc (Nat.le_refl _) _).trans (h.mono (by simp))
  by_cases hx : xs.length > 12
  · have hd : ((xs.length : Int) > 12) := by omega
    go_enter Try.func8, Try.ntmps8
    go_wp2_with (go_at_call 20; refine (c20 HF.out _).mono ?_; rintro e w1 ⟨rfl, hb1⟩; obtain ⟨hc1, hf1⟩ := bcell hb1; have hz1 : w.heap.size < w1.heap.size := (by have := hb1.size; simp at this; omega))
    all_goals go_ret
    all_goals exact ⟨rfl, HB1 hb1⟩
  · have hd : ¬ ((xs.length : Int) > 12) := by omega
    go_enter Try.func8, Try.ntmps8
    go_wp2_with (first | (go_at_call 20; refine (c20 HF.out _).mono ?_; rintro e w1 ⟨rfl, hb1⟩; obtain ⟨hc1, hf1⟩ := bcell hb1; have hz1 : w.heap.size < w1.heap.size := (by have := hb1.size; simp at this; omega); have hw1 := Lib.hid (HB1 hb1)) | (go_at_call 27; obtain ⟨s0, x0, hcc⟩ := c27 HF.out A0 c0 l _ (HR0.out.below hw1.out); refine hcc.mono ?_; clear hcc; rintro e w2 ⟨A2, c2, rfl, hr2, hb2⟩; obtain ⟨hc2, hf2⟩ := bcell hb2; have hz2 : w1.heap.size ≤ w2.heap.size := hb2.size; have hz02 : w.heap.size < w2.heap.size := (by omega); have hw2 := Lib.hid (hw1.out.trans (hb2.mono (Nat.le_of_lt hz1))); have HR2 := Lib.hid hr2; clear hr2))
    generalize hW : (w2.alloc _).alloc _ = W
    have hB : Aside0 (Below w.heap.size w W) := ⟨by rw [← hW]; exact (hw2.out.alloc (by omega) _).alloc (by simp; omega) _⟩
    have hG : Aside0 (W.heap[w2.heap.size + 1]? = some (.cells #[.int .i64 s0, .slice A2 x0.length c2, .int .i64 s1, .slice A1 xs.length c1] 47 (0, 0))) := ⟨by rw [← hW]; exact alloc_at1 _ _ _⟩
    have hX0 : Aside0 (Rd k68 W A2 c2 x0) := ⟨by rw [← hW]; exact HR2.out.below (((Below.refl _ _).alloc (Nat.le_refl _) _).alloc (by simp) _)⟩
    have hX1 : Aside0 (Rd k68 W A1 c1 xs) := ⟨HR1.out.below hB.out⟩
    clear hW hb1 hc1 hf1 hz1 hw1 hb2 hc2 hf2 hz2 hz02 hw2 HR2
    generalize w2.heap.size + 1 = g at *
    clear w1
    go_loopw [38] (fun t wr => ∃ k : Nat, k ≤ 2 ∧ t = .int .i64 k ∧ Aside0 (Below W.heap.size W wr)) (fun t _ => 2 - (intOf t).toNat)
    case atStart => exact ⟨0, by omega, rfl, ⟨Below.refl _ _⟩⟩
    case round =>
      obtain ⟨k, hk, rfl, hb⟩ := hrel
      have hg : g < W.heap.size := (Array.getElem?_eq_some_iff.1 hG.out).1
      have hg2 : g < wr.heap.size := Nat.lt_of_lt_of_le hg hb.out.size
      have hG2 : wr.heap[g]? = some (.cells #[.int .i64 s0, .slice A2 x0.length c2, .int .i64 s1, .slice A1 xs.length c1] 47 (0, 0)) := (hb.out.block g hg).trans hG.out
      by_cases hk2 : k < 2
      · obtain ⟨sx, Ax, cx, xx, hcs, hcl, hRx⟩ : ∃ (sx : Int) (Ax : Option Addr) (cx : Nat) (xx : List T), wr.cell? ⟨g, k * 2, none⟩ = some (.int .i64 sx) ∧ wr.cell? ⟨g, k * 2 + 1, none⟩ = some (.slice Ax xx.length cx) ∧ Rd k68 wr Ax cx xx := by
          have hc : k = 0 ∨ k = 1 := by omega
          rcases hc with rfl | rfl
          · exact ⟨s0, A2, c2, x0, by simp [World.cell?, hG2], by simp [World.cell?, hG2], hX0.out.below hb.out⟩
          · exact ⟨s1, A1, c1, xs, by simp [World.cell?, hG2], by simp [World.cell?, hG2], hX1.out.below hb.out⟩
        have hbx := Lib.hid hb.out
        have HRX := Lib.hid hRx
        clear hb hRx hG2
        have q0 : (0 : Int) ≤ (k : Int) := by omega
        have q1 : (k : Int) < 2 := by omega
        go_wp2
        generalize hW9 : wr.alloc _ = W9
        have hB9 : Aside0 (Below wr.heap.size wr W9) := ⟨by rw [← hW9]; exact (Below.refl _ _).alloc (Nat.le_refl _) _⟩
        have hC9 : Aside0 (W9.heap[wr.heap.size]? = some (.cells #[.int .i64 sx, .slice Ax xx.length cx] 47 (0, 0))) := ⟨by rw [← hW9]; exact alloc_at _ _⟩
        have hR9 : Aside0 (Rd k68 W9 Ax cx xx) := ⟨HRX.out.below hB9.out⟩
        clear hW9
        refine start_ (n := 5) (S := fun w' => w'.cell? ⟨wr.heap.size, 0, none⟩ = some (.int .i64 sx) ∧ w'.cell? ⟨wr.heap.size, 1, none⟩ = some (.slice Ax xx.length cx)) (ds := []) #[false, false, false, false, false] (by kernel_rfl) rfl rfl ⟨cel hC9.out (below_drew1 (Below.refl _ _)) 0 _ rfl, cel hC9.out (below_drew1 (Below.refl _ _)) 1 _ rfl⟩ (fun hHeld => ?_)
        have HB9 := Lib.hid (below_drew1 (Below.refl W9.heap.size W9))
        generalize W9.drew = wn at HB9 hHeld ⊢
        refine take_ (i := 0) (N := some 42) (v := ?_) (a' := ?_) #[true, false, false, false, false] rfl rfl (by kernel_rfl) (fun _ _ _ h => h) (Or.inl ⟨by rfl, ?_⟩) hHeld ?_ ?_
        rotate_left
        · rintro w' ⟨s0_, s1_⟩
          go_simp
          with_reducible rfl
        rotate_left
        · simp only [Act.put, List.setIfInBounds_toArray, List.set_cons_zero, List.set_cons_succ, i64_w, i32_w]
          rfl
        refine take_ (i := 2) (N := some 44) (v := ?_) (a' := ?_) #[true, false, true, false, false] rfl rfl (by kernel_rfl) (fun _ _ _ h => h) (Or.inl ⟨by rfl, ?_⟩) hHeld ?_ ?_
        rotate_left
        · rintro w' ⟨s0_, s1_⟩
          go_simp
          with_reducible rfl
        rotate_left
        · simp only [Act.put, List.setIfInBounds_toArray, List.set_cons_zero, List.set_cons_succ, i64_w, i32_w]
          rfl
        refine one_ (i := 1) (N := some 43) #[true, true, true, false, false] rfl rfl (by kernel_rfl) (by decide) (fun K hK => ?_)
        refine goes_ Try.func28 (by kernel_rfl) rfl #[.agg #[.int .i64 sx, .slice Ax xx.length cx]] (by rfl) rfl rfl (by (try simp only [List.map_toArray, List.map_cons, List.map_nil]); first | done | rfl) ?_
        refine (c28 HF.out sx Ax cx xx _ (hR9.out.below HB9.out)).mono ?_
        rintro e wa ⟨rfl, hba⟩
        have HBa := Lib.hid (below_step HB9.out hba)
        clear hba
        refine ⟨_, rfl, ?_⟩
        refine hK.out _ _ ⟨cel hC9.out (HBa.out) 0 _ rfl, cel hC9.out (HBa.out) 1 _ rfl⟩ (fun hHeld => ?_)
        clear hK K
        refine norm_ (a' := ?_) ?_ ?_
        rotate_left
        · show Act.put _ (some 43) _ = _
          simp only [Act.put, List.setIfInBounds_toArray, List.set_cons_zero, List.set_cons_succ, i64_w, i32_w]
          rfl
        refine one_ (i := 3) (N := some 45) #[true, true, true, true, false] rfl rfl (by kernel_rfl) (by decide) (fun K hK => ?_)
        refine goes_ Try.func29 (by kernel_rfl) rfl #[.agg #[.int .i64 sx, .slice Ax xx.length cx]] (by rfl) rfl rfl (by (try simp only [List.map_toArray, List.map_cons, List.map_nil]); first | done | rfl) ?_
        refine (c29 HF.out sx Ax cx xx _ (hR9.out.below HBa.out)).mono ?_
        rintro e wb ⟨rfl, hbb⟩
        have HBb := Lib.hid (below_step HBa.out hbb)
        clear hbb
        refine ⟨_, rfl, ?_⟩
        refine hK.out _ _ ⟨cel hC9.out (HBb.out) 0 _ rfl, cel hC9.out (HBb.out) 1 _ rfl⟩ (fun hHeld => ?_)
        clear hK K
        refine norm_ (a' := ?_) ?_ ?_
        rotate_left
        · show Act.put _ (some 45) _ = _
          simp only [Act.put, List.setIfInBounds_toArray, List.set_cons_zero, List.set_cons_succ, i64_w, i32_w]
          rfl
        refine pure_ (i := 4) (N := some 46) (v := ?_) (a' := ?_) #[true, true, true, true, true] rfl rfl (by kernel_rfl) (fun _ _ _ h => h) (Or.inl ⟨by rfl, ?_⟩) ?_ ?_
        rotate_left
        · intro w'
          go_simp
          with_reducible rfl
        rotate_left
        · simp only [Act.put, List.setIfInBounds_toArray, List.set_cons_zero, List.set_cons_succ, i64_w, i32_w]
          rfl
        refine done_ (by kernel_rfl) ?_
        generalize V sx xx = vv
        go_wp2
        have hB10 : Aside0 (Below W.heap.size W (wb.alloc (.cells #[.int .u64 id, .int .u64 (id.tmod 12)] 35))) := ⟨((hbx.out.trans (hB9.out.mono hbx.out.size)).trans (HBb.out.mono (Nat.le_trans hbx.out.size hB9.out.size))).alloc (Nat.le_trans (Nat.le_trans hbx.out.size hB9.out.size) HBb.out.size) _⟩
        have hC10 : Aside0 ((wb.alloc (.cells #[.int .u64 id, .int .u64 (id.tmod 12)] 35)).heap[wr.heap.size]? = some (.cells #[.int .i64 sx, .slice Ax xx.length cx] 47 (0, 0))) := ⟨hep hC9.out (HBb.out.alloc HBb.out.size _)⟩
        have hD10 : Aside0 ((wb.alloc (.cells #[.int .u64 id, .int .u64 (id.tmod 12)] 35)).heap[wb.heap.size]? = some (.cells #[.int .u64 id, .int .u64 (id.tmod 12)] 35 (0, 0))) := ⟨alloc_at _ _⟩
        have hR10 : Aside0 (Rd k68 (wb.alloc (.cells #[.int .u64 id, .int .u64 (id.tmod 12)] 35)) Ax cx xx) := ⟨hR9.out.below (HBb.out.alloc HBb.out.size _)⟩
        clear HB9 HBa HBb hB9 hC9 hR9 hHeld hcs hcl hbx HRX hg2
        generalize wb.alloc _ = W10 at *
        generalize wr.heap.size = b at *
        generalize wb.heap.size = b50 at *
        go_loopw [52] (fun t wr => ∃ k : Nat, k ≤ 2 ∧ t = .int .i64 k ∧ Aside0 (Below W10.heap.size W10 wr)) (fun t _ => 2 - (intOf t).toNat)
        case atStart => exact ⟨0, by omega, rfl, ⟨Below.refl _ _⟩⟩
        case round =>
          obtain ⟨k2, hk2', rfl, hb2⟩ := hrel
          have hbB : Aside0 (wr.heap[b50]? = some (.cells #[.int .u64 id, .int .u64 (id.tmod 12)] 35 (0, 0))) := ⟨hep hD10.out hb2.out⟩
          by_cases hj2 : k2 < 2
          · obtain ⟨xt, hxt⟩ : ∃ xt : Int, wr.cell? ⟨b50, k2, none⟩ = some (.int .u64 xt) := by
              have hc : k2 = 0 ∨ k2 = 1 := by omega
              rcases hc with rfl | rfl
              · exact ⟨id, by simp only [World.cell?, hbB.out]; rfl⟩
              · exact ⟨id.tmod 12, by simp only [World.cell?, hbB.out]; rfl⟩
            have q2 : (0 : Int) ≤ (k2 : Int) := by omega
            have q3 : (k2 : Int) < 2 := by omega
            go_wp2_with (go_at_call 11; obtain ⟨rm, hrm⟩ := HF.out.m30 now; refine (soundservicemill_Mod.calls now 30 rm _ hrm).mono ?_; rintro e wm ⟨rfl, hdm⟩; have hdm2 := Lib.hid hdm.below; clear hdm hrm)
            generalize wrap64 (rm - 2) = y2 at *
            have hB11 : Aside0 (Below W10.heap.size W10 (wm.alloc (.cells #[.int .i64 at_, .int .i64 y2] 2))) := ⟨(below_step hb2.out hdm2.out).alloc (below_step hb2.out hdm2.out).size _⟩
            have hE11 : Aside0 ((wm.alloc (.cells #[.int .i64 at_, .int .i64 y2] 2)).heap[wm.heap.size]? = some (.cells #[.int .i64 at_, .int .i64 y2] 2 (0, 0))) := ⟨alloc_at _ _⟩
            clear hb2 hbB hxt hdm2
            generalize wm.alloc _ = W11 at *
            generalize wm.heap.size = b60 at *
            go_loopw [62] (fun t wr => ∃ k : Nat, k ≤ 2 ∧ t = .int .i64 k ∧ Aside0 (Below W11.heap.size W11 wr)) (fun t _ => 2 - (intOf t).toNat)
            case atStart => exact ⟨0, by omega, rfl, ⟨Below.refl _ _⟩⟩
            case round =>
              obtain ⟨k3, hk3, rfl, hb3⟩ := hrel
              have hbB : Aside0 (wr.heap[b60]? = some (.cells #[.int .i64 at_, .int .i64 y2] 2 (0, 0))) := ⟨hep hE11.out hb3.out⟩
              have hX3 : Aside0 (wr.heap[b]? = some (.cells #[.int .i64 sx, .slice Ax xx.length cx] 47 (0, 0))) := ⟨hep hC10.out (below_step hB11.out hb3.out)⟩
              have hR3 : Aside0 (Rd k68 wr Ax cx xx) := ⟨hR10.out.below (below_step hB11.out hb3.out)⟩
              have hlb : b < wr.heap.size := (Array.getElem?_eq_some_iff.1 hX3.out).1
              have hx0 : wr.cell? ⟨b, 0, none⟩ = some (.int .i64 sx) := cel hX3.out (Below.refl _ _) 0 _ rfl
              have hx1 : wr.cell? ⟨b, 1, none⟩ = some (.slice Ax xx.length cx) := cel hX3.out (Below.refl _ _) 1 _ rfl
              by_cases hj3 : k3 < 2
              · obtain ⟨yt, hyt⟩ : ∃ yt : Int, wr.cell? ⟨b60, k3, none⟩ = some (.int .i64 yt) := by
                  have hc : k3 = 0 ∨ k3 = 1 := by omega
                  rcases hc with rfl | rfl
                  · exact ⟨at_, by simp only [World.cell?, hbB.out]; rfl⟩
                  · exact ⟨y2, by simp only [World.cell?, hbB.out]; rfl⟩
                have q4 : (0 : Int) ≤ (k3 : Int) := by omega
                have q5 : (k3 : Int) < 2 := by omega
                have hpl := HF.out.pl sx xx xt yt
                have hul := HF.out.ul sx xx xt
                have hc30 := fun W hW => c30 HF.out sx Ax cx xx xt yt W hW
                have hc31 := fun W hW => c31 HF.out sx Ax cx xx xt yt W hW
                have hc32 := fun W hW => c32 HF.out sx Ax cx xx xt W hW
                have hc33 := fun W hW => c33 HF.out sx Ax cx xx xt W hW
                generalize P sx xx xt yt = pp at *
                generalize U sx xx xt = uu at *
                have H30 := Lib.hid hc30
                have H31 := Lib.hid hc31
                have H32 := Lib.hid hc32
                have H33 := Lib.hid hc33
                clear hc30 hc31 hc32 hc33
                go_wp2_with (first | (go_at_call 30; refine (H30.out _ hR3.out).mono ?_; rintro e wa ⟨Aa, ca, rfl, hra, hba⟩; have hqa := Lib.hid hba; have hRa := Lib.hid hra; have hza := hba.size; obtain ⟨hca, hfa⟩ := bcell hba; have hla : b < wa.heap.size := (by omega); have hla1 : b < wa.heap.size + 1 := (by omega); clear hra hba) | (go_at_call 31; refine (H31.out _ (hR3.out.below (hqa.out.alloc hza _))).mono ?_; rintro e wb ⟨Ab, cb, rfl, hrb, hbb⟩; have hqb := Lib.hid hbb; have hRb := Lib.hid hrb; have hzb := hbb.size; obtain ⟨hcb, hfb⟩ := bcell hbb; have hlb2 : b < wb.heap.size := (by simp at hzb; omega); have hlb3 : b < wb.heap.size + 1 := (by omega); have hq2 := Lib.hid ((hqa.out.alloc hza _).trans (hqb.out.mono (Nat.le_trans hza (by simp)))); have hs2 := Lib.hid (Nat.le_trans hza (Nat.le_trans (by simp) hzb) : wr.heap.size ≤ wb.heap.size); clear hrb hbb) | (go_at_call 32; refine (H32.out _ (hR3.out.below (hq2.out.alloc hs2.out _))).mono ?_; rintro e wc ⟨Ac, cc, rfl, hrc, hbc⟩; have hqc := Lib.hid hbc; have hRc := Lib.hid hrc; have hzc := hbc.size; obtain ⟨hcc, hfc⟩ := bcell hbc; have hlc : b < wc.heap.size := (by simp at hzc; omega); have hlc1 : b < wc.heap.size + 1 := (by omega); have hq3 := Lib.hid ((hq2.out.alloc hs2.out _).trans (hqc.out.mono (Nat.le_trans hs2.out (by simp)))); have hs3 := Lib.hid (Nat.le_trans hs2.out (Nat.le_trans (by simp) hzc) : wr.heap.size ≤ wc.heap.size); clear hrc hbc) | (go_at_call 33; refine (H33.out _ (hR3.out.below (hq3.out.alloc hs3.out _))).mono ?_; rintro e wd ⟨Ad, cd, rfl, hrd, hbd⟩; have hqd := Lib.hid hbd; have hRd := Lib.hid hrd; have hzd := hbd.size; have hq4 := Lib.hid ((hq3.out.alloc hs3.out _).trans (hqd.out.mono (Nat.le_trans hs3.out (by simp)))); have hs4 := Lib.hid (Nat.le_trans hs3.out (Nat.le_trans (by simp) hzd) : wr.heap.size ≤ wd.heap.size); clear hrd hbd))
                have BC := hqd.out.alloc hqd.out.size (.cells #[.int .i64 uu.1, .slice Ad uu.2.1.length cd] 47)
                have BB := below_step (hqc.out.alloc hqc.out.size (.cells #[.int .i64 uu.1, .slice Ac uu.2.1.length cc] 47)) BC
                have BA := below_step (hqb.out.alloc hqb.out.size (.cells #[.int .i64 pp.1, .slice Ab pp.2.1.length cb] 47)) BB
                have hBW := Lib.hid (hq4.out.alloc hs4.out (.cells #[.int .i64 uu.1, .slice Ad uu.2.1.length cd] 47))
                have hCD := Lib.hid (alloc_at wd (.cells #[.int .i64 uu.1, .slice Ad uu.2.1.length cd] 47))
                have hCC := Lib.hid (hep (alloc_at wc (.cells #[.int .i64 uu.1, .slice Ac uu.2.1.length cc] 47)) BC)
                have hCB := Lib.hid (hep (alloc_at wb (.cells #[.int .i64 pp.1, .slice Ab pp.2.1.length cb] 47)) BB)
                have hCA := Lib.hid (hep (alloc_at wa (.cells #[.int .i64 pp.1, .slice Aa pp.2.1.length ca] 47)) BA)
                have hCX := Lib.hid (hep hX3.out hBW.out)
                have hRX := Lib.hid (hR3.out.below hBW.out)
                have hRD := Lib.hid (hRd.out.below ((Below.refl _ wd).alloc (Nat.le_refl _) (.cells #[.int .i64 uu.1, .slice Ad uu.2.1.length cd] 47)))
                have hRC := Lib.hid ((hRc.out.below ((Below.refl _ wc).alloc (Nat.le_refl _) (.cells #[.int .i64 uu.1, .slice Ac uu.2.1.length cc] 47))).below BC)
                have hRB := Lib.hid ((hRb.out.below ((Below.refl _ wb).alloc (Nat.le_refl _) (.cells #[.int .i64 pp.1, .slice Ab pp.2.1.length cb] 47))).below BB)
                have hRA := Lib.hid ((hRa.out.below ((Below.refl _ wa).alloc (Nat.le_refl _) (.cells #[.int .i64 pp.1, .slice Aa pp.2.1.length ca] 47))).below BA)
                clear BC BB BA hqa hRa hza hca hfa hla hla1 hqb hRb hzb hcb hfb hlb2 hlb3 hq2 hs2 hqc hRc hzc hcc hfc hlc hlc1 hq3 hs3 hqd hRd hzd hq4 hs4 hx0 hx1 hyt hbB hX3 hR3 H30 H31 H32 H33
                generalize wd.alloc _ = W21 at *
                generalize wa.heap.size = bA at *
                generalize wb.heap.size = bB at *
                generalize wc.heap.size = bC at *
                generalize wd.heap.size = bD at *
                refine start_ (n := 30) (S := fun w' => w'.cell? ⟨bA, 0, none⟩ = some (.int .i64 pp.1) ∧ w'.cell? ⟨bA, 1, none⟩ = some (.slice Aa pp.2.1.length ca) ∧ w'.cell? ⟨bB, 0, none⟩ = some (.int .i64 pp.1) ∧ w'.cell? ⟨bB, 1, none⟩ = some (.slice Ab pp.2.1.length cb) ∧ w'.cell? ⟨bC, 0, none⟩ = some (.int .i64 uu.1) ∧ w'.cell? ⟨bC, 1, none⟩ = some (.slice Ac uu.2.1.length cc) ∧ w'.cell? ⟨bD, 0, none⟩ = some (.int .i64 uu.1) ∧ w'.cell? ⟨bD, 1, none⟩ = some (.slice Ad uu.2.1.length cd) ∧ w'.cell? ⟨b, 0, none⟩ = some (.int .i64 sx) ∧ w'.cell? ⟨b, 1, none⟩ = some (.slice Ax xx.length cx)) (ds := []) #[false, false, false, false, false, false, false, false, false, false, false, false, false, false, false, false, false, false, false, false, false, false, false, false, false, false, false, false, false, false] (by kernel_rfl) rfl rfl ⟨cel hCA.out (below_drew1 (Below.refl _ _)) 0 _ rfl, cel hCA.out (below_drew1 (Below.refl _ _)) 1 _ rfl, cel hCB.out (below_drew1 (Below.refl _ _)) 0 _ rfl, cel hCB.out (below_drew1 (Below.refl _ _)) 1 _ rfl, cel hCC.out (below_drew1 (Below.refl _ _)) 0 _ rfl, cel hCC.out (below_drew1 (Below.refl _ _)) 1 _ rfl, cel hCD.out (below_drew1 (Below.refl _ _)) 0 _ rfl, cel hCD.out (below_drew1 (Below.refl _ _)) 1 _ rfl, cel hCX.out (below_drew1 (Below.refl _ _)) 0 _ rfl, cel hCX.out (below_drew1 (Below.refl _ _)) 1 _ rfl⟩ (fun hHeld => ?_); refine with_tabW PC.tab21 PC.bits21 (fun HT_ HW_ => ?_)
                have HB9 := Lib.hid (below_drew1 (Below.refl W21.heap.size W21))
                generalize W21.drew = wn at HB9 hHeld ⊢
                refine pure_ (i := 0) (N := some 92) (v := ?_) (a' := ?_) #[true, false, false, false, false, false, false, false, false, false, false, false, false, false, false, false, false, false, false, false, false, false, false, false, false, false, false, false, false, false] rfl rfl (any_of HT_.out (by kernel_rfl)) (fun _ _ _ h => h) (Or.inl ⟨by rfl, ?_⟩) ?_ ?_
                rotate_left
                · intro w'
                  go_simp
                  with_reducible rfl
                rotate_left
                · simp only [Act.put, List.setIfInBounds_toArray, List.set_cons_zero, List.set_cons_succ, i64_w, i32_w]
                  rfl
                refine pure_ (i := 1) (N := some 93) (v := ?_) (a' := ?_) #[true, true, false, false, false, false, false, false, false, false, false, false, false, false, false, false, false, false, false, false, false, false, false, false, false, false, false, false, false, false] rfl rfl (any_of HT_.out (by kernel_rfl)) (fun _ _ _ h => h) (Or.inl ⟨by rfl, ?_⟩) ?_ ?_
                rotate_left
                · intro w'
                  go_simp
                  with_reducible rfl
                rotate_left
                · simp only [Act.put, List.setIfInBounds_toArray, List.set_cons_zero, List.set_cons_succ, i64_w, i32_w]
                  rfl
                refine pure_ (i := 2) (N := some 94) (v := ?_) (a' := ?_) #[true, true, true, false, false, false, false, false, false, false, false, false, false, false, false, false, false, false, false, false, false, false, false, false, false, false, false, false, false, false] rfl rfl (any_of HT_.out (by kernel_rfl)) (fun _ _ _ h => h) (Or.inl ⟨by rfl, ?_⟩) ?_ ?_
                rotate_left
                · intro w'
                  go_simp
                  with_reducible rfl
                rotate_left
                · simp only [Act.put, List.setIfInBounds_toArray, List.set_cons_zero, List.set_cons_succ, i64_w, i32_w]
                  rfl
                refine pure_ (i := 3) (N := some 95) (v := ?_) (a' := ?_) #[true, true, true, true, false, false, false, false, false, false, false, false, false, false, false, false, false, false, false, false, false, false, false, false, false, false, false, false, false, false] rfl rfl (any_of HT_.out (by kernel_rfl)) (fun _ _ _ h => h) (Or.inl ⟨by rfl, ?_⟩) ?_ ?_
                rotate_left
                · intro w'
                  go_simp
                  with_reducible rfl
                rotate_left
                · simp only [Act.put, List.setIfInBounds_toArray, List.set_cons_zero, List.set_cons_succ, i64_w, i32_w]
                  rfl
                refine pure_ (i := 4) (N := some 96) (v := ?_) (a' := ?_) #[true, true, true, true, true, false, false, false, false, false, false, false, false, false, false, false, false, false, false, false, false, false, false, false, false, false, false, false, false, false] rfl rfl (any_of HT_.out (by kernel_rfl)) (fun _ _ _ h => h) (Or.inl ⟨by rfl, ?_⟩) ?_ ?_
                rotate_left
                · intro w'
                  go_simp
                  with_reducible rfl
                rotate_left
                · simp only [Act.put, List.setIfInBounds_toArray, List.set_cons_zero, List.set_cons_succ, i64_w, i32_w]
                  rfl
                refine pure_ (i := 5) (N := some 97) (v := ?_) (a' := ?_) #[true, true, true, true, true, true, false, false, false, false, false, false, false, false, false, false, false, false, false, false, false, false, false, false, false, false, false, false, false, false] rfl rfl (any_of HT_.out (by kernel_rfl)) (fun _ _ _ h => h) (Or.inl ⟨by rfl, ?_⟩) ?_ ?_
                rotate_left
                · intro w'
                  go_simp
                  with_reducible rfl
                rotate_left
                · simp only [Act.put, List.setIfInBounds_toArray, List.set_cons_zero, List.set_cons_succ, i64_w, i32_w]
                  rfl
                refine pure_ (i := 6) (N := some 98) (v := ?_) (a' := ?_) #[true, true, true, true, true, true, true, false, false, false, false, false, false, false, false, false, false, false, false, false, false, false, false, false, false, false, false, false, false, false] rfl rfl (any_of HT_.out (by kernel_rfl)) (fun _ _ _ h => h) (Or.inl ⟨by rfl, ?_⟩) ?_ ?_
                rotate_left
                · intro w'
                  go_simp
                  with_reducible rfl
                rotate_left
                · simp only [Act.put, List.setIfInBounds_toArray, List.set_cons_zero, List.set_cons_succ, i64_w, i32_w]
                  rfl
                refine pure_ (i := 7) (N := some 99) (v := ?_) (a' := ?_) #[true, true, true, true, true, true, true, true, false, false, false, false, false, false, false, false, false, false, false, false, false, false, false, false, false, false, false, false, false, false] rfl rfl (any_of HT_.out (by kernel_rfl)) (fun _ _ _ h => h) (Or.inl ⟨by rfl, ?_⟩) ?_ ?_
                rotate_left
                · intro w'
                  go_simp
                  with_reducible rfl
                rotate_left
                · simp only [Act.put, List.setIfInBounds_toArray, List.set_cons_zero, List.set_cons_succ, i64_w, i32_w]
                  rfl
                refine pure_ (i := 8) (N := some 100) (v := ?_) (a' := ?_) #[true, true, true, true, true, true, true, true, true, false, false, false, false, false, false, false, false, false, false, false, false, false, false, false, false, false, false, false, false, false] rfl rfl (any_of HT_.out (by kernel_rfl)) (fun _ _ _ h => h) (Or.inl ⟨by rfl, ?_⟩) ?_ ?_
                rotate_left
                · intro w'
                  go_simp
                  with_reducible rfl
                rotate_left
                · simp only [Act.put, List.setIfInBounds_toArray, List.set_cons_zero, List.set_cons_succ, i64_w, i32_w]
                  rfl
                refine take_ (i := 9) (N := some 101) (v := ?_) (a' := ?_) #[true, true, true, true, true, true, true, true, true, true, false, false, false, false, false, false, false, false, false, false, false, false, false, false, false, false, false, false, false, false] rfl rfl (take_ofW HT_.out HW_.out (by kernel_rfl)) (fun _ _ _ h => h) (Or.inl ⟨by rfl, ?_⟩) hHeld ?_ ?_
                rotate_left
                · rintro w' ⟨s0_, s1_, s2_, s3_, s4_, s5_, s6_, s7_, s8_, s9_⟩
                  go_simp
                  with_reducible rfl
                rotate_left
                · simp only [Act.put, List.setIfInBounds_toArray, List.set_cons_zero, List.set_cons_succ, i64_w, i32_w]
                  rfl
                refine take_ (i := 10) (N := some 102) (v := ?_) (a' := ?_) #[true, true, true, true, true, true, true, true, true, true, true, false, false, false, false, false, false, false, false, false, false, false, false, false, false, false, false, false, false, false] rfl rfl (take_ofW HT_.out HW_.out (by kernel_rfl)) (fun _ _ _ h => h) (Or.inl ⟨by rfl, ?_⟩) hHeld ?_ ?_
                rotate_left
                · rintro w' ⟨s0_, s1_, s2_, s3_, s4_, s5_, s6_, s7_, s8_, s9_⟩
                  go_simp
                  with_reducible rfl
                rotate_left
                · simp only [Act.put, List.setIfInBounds_toArray, List.set_cons_zero, List.set_cons_succ, i64_w, i32_w]
                  rfl
                refine one_ (i := 11) (N := some 103) #[true, true, true, true, true, true, true, true, true, true, true, true, false, false, false, false, false, false, false, false, false, false, false, false, false, false, false, false, false, false] rfl rfl (one_of HT_.out (by kernel_rfl)) (by decide) (fun K hK => ?_)
                refine goes_ Try.func34 (by kernel_rfl) rfl #[.agg #[.int .i64 pp.1, .slice Aa pp.2.1.length ca], .agg #[.int .i64 pp.1, .slice Ab pp.2.1.length cb]] (by rfl) rfl rfl (by (try simp only [List.map_toArray, List.map_cons, List.map_nil]); first | done | rfl) ?_
                refine (c34 HF.out pp.1 Aa Ab ca cb pp.2.1 hpl _ (hRA.out.below HB9.out) (hRB.out.below HB9.out)).mono ?_
                rintro e we ⟨rfl, hbe⟩
                have HBe := Lib.hid (below_step HB9.out hbe)
                clear hbe
                refine ⟨_, rfl, ?_⟩
                refine hK.out _ _ ⟨cel hCA.out (HBe.out) 0 _ rfl, cel hCA.out (HBe.out) 1 _ rfl, cel hCB.out (HBe.out) 0 _ rfl, cel hCB.out (HBe.out) 1 _ rfl, cel hCC.out (HBe.out) 0 _ rfl, cel hCC.out (HBe.out) 1 _ rfl, cel hCD.out (HBe.out) 0 _ rfl, cel hCD.out (HBe.out) 1 _ rfl, cel hCX.out (HBe.out) 0 _ rfl, cel hCX.out (HBe.out) 1 _ rfl⟩ (fun hHeld => ?_)
                clear hK K
                refine norm_ (a' := ?_) ?_ ?_
                rotate_left
                · show Act.put _ (some 103) _ = _
                  simp only [Act.put, List.setIfInBounds_toArray, List.set_cons_zero, List.set_cons_succ, i64_w, i32_w]
                  rfl
                refine pure_ (i := 12) (N := some 104) (v := ?_) (a' := ?_) #[true, true, true, true, true, true, true, true, true, true, true, true, true, false, false, false, false, false, false, false, false, false, false, false, false, false, false, false, false, false] rfl rfl (any_of HT_.out (by kernel_rfl)) (fun _ _ _ h => h) (Or.inl ⟨by rfl, ?_⟩) ?_ ?_
                rotate_left
                · intro w'
                  go_simp
                  with_reducible rfl
                rotate_left
                · simp only [Act.put, List.setIfInBounds_toArray, List.set_cons_zero, List.set_cons_succ, i64_w, i32_w]
                  rfl
                refine pure_ (i := 13) (N := some 105) (v := ?_) (a' := ?_) #[true, true, true, true, true, true, true, true, true, true, true, true, true, true, false, false, false, false, false, false, false, false, false, false, false, false, false, false, false, false] rfl rfl (any_of HT_.out (by kernel_rfl)) (fun _ _ _ h => h) (Or.inl ⟨by rfl, ?_⟩) ?_ ?_
                rotate_left
                · intro w'
                  go_simp
                  with_reducible rfl
                rotate_left
                · simp only [Act.put, List.setIfInBounds_toArray, List.set_cons_zero, List.set_cons_succ, i64_w, i32_w]
                  rfl
                refine pure_ (i := 14) (N := some 106) (v := ?_) (a' := ?_) #[true, true, true, true, true, true, true, true, true, true, true, true, true, true, true, false, false, false, false, false, false, false, false, false, false, false, false, false, false, false] rfl rfl (any_of HT_.out (by kernel_rfl)) (fun _ _ _ h => h) (Or.inl ⟨by rfl, ?_⟩) ?_ ?_
                rotate_left
                · intro w'
                  go_simp
                  with_reducible rfl
                rotate_left
                · simp only [Act.put, List.setIfInBounds_toArray, List.set_cons_zero, List.set_cons_succ, i64_w, i32_w]
                  rfl
                refine take_ (i := 15) (N := some 107) (v := ?_) (a' := ?_) #[true, true, true, true, true, true, true, true, true, true, true, true, true, true, true, true, false, false, false, false, false, false, false, false, false, false, false, false, false, false] rfl rfl (take_ofW HT_.out HW_.out (by kernel_rfl)) (fun _ _ _ h => h) (Or.inl ⟨by rfl, ?_⟩) hHeld ?_ ?_
                rotate_left
                · rintro w' ⟨s0_, s1_, s2_, s3_, s4_, s5_, s6_, s7_, s8_, s9_⟩
                  go_simp
                  with_reducible rfl
                rotate_left
                · simp only [Act.put, List.setIfInBounds_toArray, List.set_cons_zero, List.set_cons_succ, i64_w, i32_w]
                  rfl
                refine take_ (i := 16) (N := some 108) (v := ?_) (a' := ?_) #[true, true, true, true, true, true, true, true, true, true, true, true, true, true, true, true, true, false, false, false, false, false, false, false, false, false, false, false, false, false] rfl rfl (take_ofW HT_.out HW_.out (by kernel_rfl)) (fun _ _ _ h => h) (Or.inl ⟨by rfl, ?_⟩) hHeld ?_ ?_
                rotate_left
                · rintro w' ⟨s0_, s1_, s2_, s3_, s4_, s5_, s6_, s7_, s8_, s9_⟩
                  go_simp
                  with_reducible rfl
                rotate_left
                · simp only [Act.put, List.setIfInBounds_toArray, List.set_cons_zero, List.set_cons_succ, i64_w, i32_w]
                  rfl
                refine one_ (i := 17) (N := some 109) #[true, true, true, true, true, true, true, true, true, true, true, true, true, true, true, true, true, true, false, false, false, false, false, false, false, false, false, false, false, false] rfl rfl (one_of HT_.out (by kernel_rfl)) (by decide) (fun K hK => ?_)
                refine goes_ Try.func34 (by kernel_rfl) rfl #[.agg #[.int .i64 uu.1, .slice Ac uu.2.1.length cc], .agg #[.int .i64 uu.1, .slice Ad uu.2.1.length cd]] (by rfl) rfl rfl (by (try simp only [List.map_toArray, List.map_cons, List.map_nil]); first | done | rfl) ?_
                refine (c34 HF.out uu.1 Ac Ad cc cd uu.2.1 hul _ (hRC.out.below HBe.out) (hRD.out.below HBe.out)).mono ?_
                rintro e wf ⟨rfl, hbf⟩
                have HBf := Lib.hid (below_step HBe.out hbf)
                clear hbf
                refine ⟨_, rfl, ?_⟩
                refine hK.out _ _ ⟨cel hCA.out (HBf.out) 0 _ rfl, cel hCA.out (HBf.out) 1 _ rfl, cel hCB.out (HBf.out) 0 _ rfl, cel hCB.out (HBf.out) 1 _ rfl, cel hCC.out (HBf.out) 0 _ rfl, cel hCC.out (HBf.out) 1 _ rfl, cel hCD.out (HBf.out) 0 _ rfl, cel hCD.out (HBf.out) 1 _ rfl, cel hCX.out (HBf.out) 0 _ rfl, cel hCX.out (HBf.out) 1 _ rfl⟩ (fun hHeld => ?_)
                clear hK K
                refine norm_ (a' := ?_) ?_ ?_
                rotate_left
                · show Act.put _ (some 109) _ = _
                  simp only [Act.put, List.setIfInBounds_toArray, List.set_cons_zero, List.set_cons_succ, i64_w, i32_w]
                  rfl
                refine pure_ (i := 18) (N := some 110) (v := ?_) (a' := ?_) #[true, true, true, true, true, true, true, true, true, true, true, true, true, true, true, true, true, true, true, false, false, false, false, false, false, false, false, false, false, false] rfl rfl (any_of HT_.out (by kernel_rfl)) (fun _ _ _ h => h) (Or.inl ⟨by rfl, ?_⟩) ?_ ?_
                rotate_left
                · intro w'
                  go_simp
                  with_reducible rfl
                rotate_left
                · simp only [Act.put, List.setIfInBounds_toArray, List.set_cons_zero, List.set_cons_succ, i64_w, i32_w]
                  rfl
                refine pure_ (i := 19) (N := some 111) (v := ?_) (a' := ?_) #[true, true, true, true, true, true, true, true, true, true, true, true, true, true, true, true, true, true, true, true, false, false, false, false, false, false, false, false, false, false] rfl rfl (any_of HT_.out (by kernel_rfl)) (fun _ _ _ h => h) (Or.inl ⟨by rfl, ?_⟩) ?_ ?_
                rotate_left
                · intro w'
                  go_simp
                  with_reducible rfl
                rotate_left
                · simp only [Act.put, List.setIfInBounds_toArray, List.set_cons_zero, List.set_cons_succ, i64_w, i32_w]
                  rfl
                refine pure_ (i := 20) (N := some 112) (v := ?_) (a' := ?_) #[true, true, true, true, true, true, true, true, true, true, true, true, true, true, true, true, true, true, true, true, true, false, false, false, false, false, false, false, false, false] rfl rfl (any_of HT_.out (by kernel_rfl)) (fun _ _ _ h => h) (Or.inl ⟨by rfl, ?_⟩) ?_ ?_
                rotate_left
                · intro w'
                  go_simp
                  with_reducible rfl
                rotate_left
                · simp only [Act.put, List.setIfInBounds_toArray, List.set_cons_zero, List.set_cons_succ, i64_w, i32_w]
                  rfl
                refine pure_ (i := 22) (N := some 114) (v := ?_) (a' := ?_) #[true, true, true, true, true, true, true, true, true, true, true, true, true, true, true, true, true, true, true, true, true, false, true, false, false, false, false, false, false, false] rfl rfl (any_of HT_.out (by kernel_rfl)) (fun _ _ _ h => h) (Or.inl ⟨by rfl, ?_⟩) ?_ ?_
                rotate_left
                · intro w'
                  go_simp
                  with_reducible rfl
                rotate_left
                · simp only [Act.put, List.setIfInBounds_toArray, List.set_cons_zero, List.set_cons_succ, i64_w, i32_w]
                  rfl
                refine pure_ (i := 25) (N := some 117) (v := ?_) (a' := ?_) #[true, true, true, true, true, true, true, true, true, true, true, true, true, true, true, true, true, true, true, true, true, false, true, false, false, true, false, false, false, false] rfl rfl (any_of HT_.out (by kernel_rfl)) (fun _ _ _ h => h) (Or.inl ⟨by rfl, ?_⟩) ?_ ?_
                rotate_left
                · intro w'
                  go_simp
                  with_reducible rfl
                rotate_left
                · simp only [Act.put, List.setIfInBounds_toArray, List.set_cons_zero, List.set_cons_succ, i64_w, i32_w]
                  rfl
                refine take_ (i := 21) (N := some 113) (v := ?_) (a' := ?_) #[true, true, true, true, true, true, true, true, true, true, true, true, true, true, true, true, true, true, true, true, true, true, true, false, false, true, false, false, false, false] rfl rfl (take_ofW HT_.out HW_.out (by kernel_rfl)) (fun _ _ _ h => h) (Or.inl ⟨by rfl, ?_⟩) hHeld ?_ ?_
                rotate_left
                · rintro w' ⟨s0_, s1_, s2_, s3_, s4_, s5_, s6_, s7_, s8_, s9_⟩
                  go_simp
                  with_reducible rfl
                rotate_left
                · simp only [Act.put, List.setIfInBounds_toArray, List.set_cons_zero, List.set_cons_succ, i64_w, i32_w]
                  rfl
                refine take_ (i := 24) (N := some 116) (v := ?_) (a' := ?_) #[true, true, true, true, true, true, true, true, true, true, true, true, true, true, true, true, true, true, true, true, true, true, true, false, true, true, false, false, false, false] rfl rfl (take_ofW HT_.out HW_.out (by kernel_rfl)) (fun _ _ _ h => h) (Or.inl ⟨by rfl, ?_⟩) hHeld ?_ ?_
                rotate_left
                · rintro w' ⟨s0_, s1_, s2_, s3_, s4_, s5_, s6_, s7_, s8_, s9_⟩
                  go_simp
                  with_reducible rfl
                rotate_left
                · simp only [Act.put, List.setIfInBounds_toArray, List.set_cons_zero, List.set_cons_succ, i64_w, i32_w]
                  rfl
                refine one_ (i := 23) (N := some 115) #[true, true, true, true, true, true, true, true, true, true, true, true, true, true, true, true, true, true, true, true, true, true, true, true, true, true, false, false, false, false] rfl rfl (one_of HT_.out (by kernel_rfl)) (by decide) (fun K hK => ?_)
                refine goes_ Try.func36 (by kernel_rfl) rfl #[.agg #[.int .i64 sx, .slice Ax xx.length cx], .int .i64 yt] (by rfl) rfl rfl (by (try simp only [List.map_toArray, List.map_cons, List.map_nil]); first | done | rfl) ?_
                refine (c36 HF.out sx Ax cx xx yt _ (hRX.out.below HBf.out)).mono ?_
                rintro e wg ⟨Ae, ce, rfl, hre, hbg⟩
                have HRe := Lib.hid hre
                have HBg := Lib.hid (below_step HBf.out hbg)
                clear hbg hre
                refine ⟨_, rfl, ?_⟩
                refine hK.out _ _ ⟨cel hCA.out (HBg.out) 0 _ rfl, cel hCA.out (HBg.out) 1 _ rfl, cel hCB.out (HBg.out) 0 _ rfl, cel hCB.out (HBg.out) 1 _ rfl, cel hCC.out (HBg.out) 0 _ rfl, cel hCC.out (HBg.out) 1 _ rfl, cel hCD.out (HBg.out) 0 _ rfl, cel hCD.out (HBg.out) 1 _ rfl, cel hCX.out (HBg.out) 0 _ rfl, cel hCX.out (HBg.out) 1 _ rfl⟩ (fun hHeld => ?_)
                clear hK K
                refine norm_ (a' := ?_) ?_ ?_
                rotate_left
                · show Act.put _ (some 115) _ = _
                  simp only [Act.put, List.setIfInBounds_toArray, List.set_cons_zero, List.set_cons_succ, i64_w, i32_w]
                  rfl
                refine one_ (i := 26) (N := some 118) #[true, true, true, true, true, true, true, true, true, true, true, true, true, true, true, true, true, true, true, true, true, true, true, true, true, true, true, false, false, false] rfl rfl (one_of HT_.out (by kernel_rfl)) (by decide) (fun K hK => ?_)
                refine goes_ Try.func37 (by kernel_rfl) rfl #[.agg #[.int .i64 sx, .slice Ax xx.length cx], .int .i64 yt] (by rfl) rfl rfl (by (try simp only [List.map_toArray, List.map_cons, List.map_nil]); first | done | rfl) ?_
                refine (c37 HF.out sx Ax cx xx yt _ (hRX.out.below HBg.out)).mono ?_
                rintro e wh ⟨Af, cf, rfl, hrf, hbh⟩
                have HRf := Lib.hid hrf
                have HRe2 := Lib.hid (HRe.out.below hbh)
                have HBh := Lib.hid (below_step HBg.out hbh)
                clear hbh hrf HRe
                refine ⟨_, rfl, ?_⟩
                refine hK.out _ _ ⟨cel hCA.out (HBh.out) 0 _ rfl, cel hCA.out (HBh.out) 1 _ rfl, cel hCB.out (HBh.out) 0 _ rfl, cel hCB.out (HBh.out) 1 _ rfl, cel hCC.out (HBh.out) 0 _ rfl, cel hCC.out (HBh.out) 1 _ rfl, cel hCD.out (HBh.out) 0 _ rfl, cel hCD.out (HBh.out) 1 _ rfl, cel hCX.out (HBh.out) 0 _ rfl, cel hCX.out (HBh.out) 1 _ rfl⟩ (fun hHeld => ?_)
                clear hK K
                refine norm_ (a' := ?_) ?_ ?_
                rotate_left
                · show Act.put _ (some 118) _ = _
                  simp only [Act.put, List.setIfInBounds_toArray, List.set_cons_zero, List.set_cons_succ, i64_w, i32_w]
                  rfl
                refine one_ (i := 27) (N := some 119) #[true, true, true, true, true, true, true, true, true, true, true, true, true, true, true, true, true, true, true, true, true, true, true, true, true, true, true, true, false, false] rfl rfl (one_of HT_.out (by kernel_rfl)) (by decide) (fun K hK => ?_)
                refine goes_ Try.func35 (by kernel_rfl) rfl #[.slice Ae (D sx xx yt).length ce, .slice Af (D sx xx yt).length cf] (by rfl) rfl rfl (by (try simp only [List.map_toArray, List.map_cons, List.map_nil]); first | done | rfl) ?_
                refine (c35 HF.out Ae Af ce cf (D sx xx yt) (HF.out.dl _ _ _) _ HRe2.out HRf.out).mono ?_
                rintro e wi ⟨rfl, hdi⟩
                have HBi := Lib.hid (below_step HBh.out hdi.below)
                clear hdi
                refine ⟨_, rfl, ?_⟩
                refine hK.out _ _ ⟨cel hCA.out (HBi.out) 0 _ rfl, cel hCA.out (HBi.out) 1 _ rfl, cel hCB.out (HBi.out) 0 _ rfl, cel hCB.out (HBi.out) 1 _ rfl, cel hCC.out (HBi.out) 0 _ rfl, cel hCC.out (HBi.out) 1 _ rfl, cel hCD.out (HBi.out) 0 _ rfl, cel hCD.out (HBi.out) 1 _ rfl, cel hCX.out (HBi.out) 0 _ rfl, cel hCX.out (HBi.out) 1 _ rfl⟩ (fun hHeld => ?_)
                clear hK K
                refine norm_ (a' := ?_) ?_ ?_
                rotate_left
                · show Act.put _ (some 119) _ = _
                  simp only [Act.put, List.setIfInBounds_toArray, List.set_cons_zero, List.set_cons_succ, i64_w, i32_w]
                  rfl
                refine pure_ (i := 28) (N := some 120) (v := ?_) (a' := ?_) #[true, true, true, true, true, true, true, true, true, true, true, true, true, true, true, true, true, true, true, true, true, true, true, true, true, true, true, true, true, false] rfl rfl (any_of HT_.out (by kernel_rfl)) (fun _ _ _ h => h) (Or.inl ⟨by rfl, ?_⟩) ?_ ?_
                rotate_left
                · intro w'
                  go_simp
                  with_reducible rfl
                rotate_left
                · simp only [Act.put, List.setIfInBounds_toArray, List.set_cons_zero, List.set_cons_succ, i64_w, i32_w]
                  rfl
                refine pure_ (i := 29) (N := some 121) (v := ?_) (a' := ?_) #[true, true, true, true, true, true, true, true, true, true, true, true, true, true, true, true, true, true, true, true, true, true, true, true, true, true, true, true, true, true] rfl rfl (any_of HT_.out (by kernel_rfl)) (fun _ _ _ h => h) (Or.inl ⟨by rfl, ?_⟩) ?_ ?_
                rotate_left
                · intro w'
                  go_simp
                  with_reducible rfl
                rotate_left
                · simp only [Act.put, List.setIfInBounds_toArray, List.set_cons_zero, List.set_cons_succ, i64_w, i32_w]
                  rfl
                refine done_ (done_of HT_.out (by kernel_rfl)) ?_
                clear hHeld HT_ HW_
                go_wp2
                go_roundw
                case measure => simp only [intOf]; omega
                case rel => exact ⟨k3 + 1, by omega, by simp, ⟨below_step (below_step hb3.out hBW.out) HBi.out⟩⟩
              · obtain rfl : k3 = 2 := by omega
                clear hbB hX3 hR3 hlb hx0 hx1
                go_wp2
                go_roundw
                case measure => simp only [intOf]; omega
                case rel => exact ⟨k2 + 1, by omega, by simp, ⟨below_step hB11.out hb3.out⟩⟩
          · obtain rfl : k2 = 2 := by omega
            clear hbB
            go_wp2
            go_roundw
            case measure => simp only [intOf]; omega
            case rel => exact ⟨k + 1, by omega, by simp, ⟨below_step hB10.out hb2.out⟩⟩
      · obtain rfl : k = 2 := by omega
        clear hG2
        go_wp2
        go_ret
        exact ⟨rfl, below_step hB.out hb.out⟩
end Go.Proofs.Ytobcpkeapjflhaa.ComesW
