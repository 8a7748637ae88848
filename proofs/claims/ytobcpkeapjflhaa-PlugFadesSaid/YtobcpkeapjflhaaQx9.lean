-- Written by a program of this session (wip/tools/given.py) over the translation: Lean checks it.
import Derived.Test.YtobcpkeapjflhaaQx0
import Derived.Test.YtobcpkeapjflhaaQx1
import Derived.Test.YtobcpkeapjflhaaQx3
import Derived.Test.YtobcpkeapjflhaaQx5
import Derived.Test.YtobcpkeapjflhaaQx6
import Derived.Test.YtobcpkeapjflhaaQx7
namespace Go.Proofs.Ytobcpkeapjflhaa.Q
open Go.RowKit Go.Proofs.YtobcpkeapjflhaaW.PrintWords Go.Proofs.YtobcpkeapjflhaaW.PrintLast Go.Proofs.YtobcpkeapjflhaaW.PrintMore
attribute [local go_sem] max2_int min2_int max_two min_two max_three min_three max_four min_four   -- for this text's walks alone
set_option linter.unusedVariables false
set_option linter.unusedSimpArgs false

attribute [local go_sem high] eqA37
/-! ### soundservicelaw33_PlugFades: function 7 -/
def soundservicelaw33_PlugFades.l0 : Nat → Int → Int → Int → Int → Int → Int → Int → Int → Int → Option (Bool)
  | 0, _, _, _, _, _, _, _, _, _ => none
  | k + 1, x1, x2, x3, x10, x315000, x315001, x315002, x315003, x315004 => if x10 < (wrap64 (2 * x3)) then ((plug_Wanted.f x315000 x315001 x315002 x315003 x315004).bind fun bt322 => (if x315003 = 3 then (some false) else (if (bt322.2 != (decide (x10 ≥ x3))) = true then (some false) else (if bt322.2 = true then (if bt322.1 = x2 then ((plug_Advance.f k x315000 x315001 x315002 x315003 x315004 x3).bind fun bt324 => (soundservicelaw33_PlugFades.l0 k x1 x2 x3 (wrap64 (x10 + 1)) bt324.1 bt324.2.1 bt324.2.2.1 bt324.2.2.2.1 bt324.2.2.2.2)) else (some false)) else (if bt322.1 = x1 then ((plug_Advance.f k x315000 x315001 x315002 x315003 x315004 x3).bind fun bt329 => (soundservicelaw33_PlugFades.l0 k x1 x2 x3 (wrap64 (x10 + 1)) bt329.1 bt329.2.1 bt329.2.2.1 bt329.2.2.2.1 bt329.2.2.2.2)) else (some false)))))) else ((plug_Wanted.f x315000 x315001 x315002 x315003 x315004).bind fun bt315 => (if x315003 = 3 then (if bt315.1 = x2 then (if bt315.2 = true then ((plug_Advance.f k x315000 x315001 x315002 x315003 x315004 x3).bind fun bt317 => (some (bt317.1 == x315000 && (bt317.2.1 == x315001 && (bt317.2.2.1 == x315002 && (bt317.2.2.2.1 == x315003 && (bt317.2.2.2.2 == x315004))))))) else (some false)) else (some false)) else (some false)))
def soundservicelaw33_PlugFades.f (k : Nat) (a0 : Int) (a1 : Int) (a2 : Int) (a3 : Int) : Option (Bool) := (soundservicelaw33_sane.f k).bind fun t307 => (if t307 = true then ((soundservicemill_Mod.f a3 12).bind fun t308 => ((plug_Begin.f k a0 (IntKind.u64.wrap (1 + (Int.tmod a1 9))) (IntKind.u64.wrap (11 + (Int.tmod a2 9))) (wrap64 (1 + t308))).bind fun bt309 => (soundservicelaw33_PlugFades.l0 k (IntKind.u64.wrap (1 + (Int.tmod a1 9))) (IntKind.u64.wrap (11 + (Int.tmod a2 9))) (wrap64 (1 + t308)) 0 bt309.1 bt309.2.1 bt309.2.2.1 bt309.2.2.2.1 bt309.2.2.2.2))) else (some false))
theorem soundservicelaw33_PlugFades.mono_l : ∀ k, (∀ y0 y1 y2 y3 y4 y5 y6 y7 y8, LeO (soundservicelaw33_PlugFades.l0 k y0 y1 y2 y3 y4 y5 y6 y7 y8) (soundservicelaw33_PlugFades.l0 (k + 1) y0 y1 y2 y3 y4 y5 y6 y7 y8))
  | 0 => fun _ _ _ _ _ _ _ _ _ r h => by simp [soundservicelaw33_PlugFades.l0] at h
  | k + 1 => by
    have ih0 := soundservicelaw33_PlugFades.mono_l k
    · intro y0 y1 y2 y3 y4 y5 y6 y7 y8
      unfold soundservicelaw33_PlugFades.l0
      repeat' first
      | (with_reducible exact ih0 _ _ _ _ _ _ _ _ _)
      | (with_reducible exact plug_Advance.mono _ _ _ _ _ _ _)
      | (with_reducible exact plug_Begin.mono _ _ _ _ _)
      | (with_reducible exact soundservicelaw33_sane.mono _)
      | (with_reducible exact LeO.refl _)
      | (with_reducible exact LeO.none _)
      | (with_reducible refine LeO.ite ?_ ?_)
      | (with_reducible refine LeO.bind ?_ (fun _ => ?_))
      | exact ih0 _ _ _ _ _ _ _ _ _
      | exact plug_Advance.mono _ _ _ _ _ _ _
      | exact plug_Begin.mono _ _ _ _ _
      | exact soundservicelaw33_sane.mono _
      | exact LeO.none _
      | refine LeO.ite ?_ ?_
      | refine LeO.bind ?_ (fun _ => ?_)
theorem soundservicelaw33_PlugFades.mono : ∀ a0 a1 a2 a3 k, LeO (soundservicelaw33_PlugFades.f k a0 a1 a2 a3) (soundservicelaw33_PlugFades.f (k + 1) a0 a1 a2 a3) := by
  intro a0 a1 a2 a3 k
  have ih0 := soundservicelaw33_PlugFades.mono_l k
  unfold soundservicelaw33_PlugFades.f
  repeat' first
      | (with_reducible exact ih0 _ _ _ _ _ _ _ _ _)
      | (with_reducible exact plug_Advance.mono _ _ _ _ _ _ _)
      | (with_reducible exact plug_Begin.mono _ _ _ _ _)
      | (with_reducible exact soundservicelaw33_sane.mono _)
      | (with_reducible exact LeO.refl _)
      | (with_reducible exact LeO.none _)
      | (with_reducible refine LeO.ite ?_ ?_)
      | (with_reducible refine LeO.bind ?_ (fun _ => ?_))
      | exact ih0 _ _ _ _ _ _ _ _ _
      | exact plug_Advance.mono _ _ _ _ _ _ _
      | exact plug_Begin.mono _ _ _ _ _
      | exact soundservicelaw33_sane.mono _
      | exact LeO.none _
      | refine LeO.ite ?_ ?_
      | refine LeO.bind ?_ (fun _ => ?_)
def soundservicelaw33_PlugFades.T14 : Bool × List (List Nat × List Nat) := (true, [([], []), ([0], [0]), ([1], [1]), ([2], [2]), ([3], [3]), ([3], [3]), ([4, 5, 3], [3, 4, 5]), ([3, 6], [3, 6]), ([7, 3], [7]), ([8], [8]), ([8, 9], [8, 9]), ([10, 8], [10]), ([11], [11]), ([11], [11]), ([12, 13, 11, 11], [11, 12, 13]), ([11], [11]), ([14, 15, 11], [11, 14, 15]), ([11, 16], [11, 16]), ([17, 14, 0, 1, 2, 3, 4, 5, 6, 7, 8, 9, 10, 11, 12, 13, 14, 15, 16, 17], [17])])
def soundservicelaw33_PlugFades.B14 : List Nat := [0, 1, 3, 7, 15, 15, 63, 127, 255, 511, 1023, 2047, 4095, 4095, 16383, 4095, 65535, 131071, 262143]
theorem soundservicelaw33_PlugFades.tab14 : rtab .any (opsOf Try.f7 14) = soundservicelaw33_PlugFades.T14 := by kernel_rfl
theorem soundservicelaw33_PlugFades.bits14 : waitsOk soundservicelaw33_PlugFades.T14.2 soundservicelaw33_PlugFades.B14 = true := by kernel_rfl
set_option maxHeartbeats 8000000 in
set_option maxRecDepth 100000 in
theorem soundservicelaw33_PlugFades.calls (k : Nat) (a0 : Int) (a1 : Int) (a2 : Int) (a3 : Int) (r : Bool) (w : World) (h : soundservicelaw33_PlugFades.f k a0 a1 a2 a3 = some r) :
    Calls Try.prog 7 #[.int .i64 a0, .int .u64 a1, .int .u64 a2, .int .i64 a3] w fun e w' => e = .returned (.bool r) ∧ Below w.heap.size w w' := by
  have hu37 := Try.underlying37
  have HB := Aside0.mk (Below.refl w.heap.size w)
  have H : ((soundservicelaw33_sane.f k).bind fun t307 => (if t307 = true then ((soundservicemill_Mod.f a3 12).bind fun t308 => ((plug_Begin.f k a0 (IntKind.u64.wrap (1 + (Int.tmod a1 9))) (IntKind.u64.wrap (11 + (Int.tmod a2 9))) (wrap64 (1 + t308))).bind fun bt309 => (soundservicelaw33_PlugFades.l0 k (IntKind.u64.wrap (1 + (Int.tmod a1 9))) (IntKind.u64.wrap (11 + (Int.tmod a2 9))) (wrap64 (1 + t308)) 0 bt309.1 bt309.2.1 bt309.2.2.1 bt309.2.2.2.1 bt309.2.2.2.2))) else (some false))) = some r := h
  clear h
  replace H := Option.bind_eq_some_iff.mp H
  obtain ⟨t307, A50, H⟩ := H
  replace H : (if t307 = true then ((soundservicemill_Mod.f a3 12).bind fun t308 => ((plug_Begin.f k a0 (IntKind.u64.wrap (1 + (Int.tmod a1 9))) (IntKind.u64.wrap (11 + (Int.tmod a2 9))) (wrap64 (1 + t308))).bind fun bt309 => (soundservicelaw33_PlugFades.l0 k (IntKind.u64.wrap (1 + (Int.tmod a1 9))) (IntKind.u64.wrap (11 + (Int.tmod a2 9))) (wrap64 (1 + t308)) 0 bt309.1 bt309.2.1 bt309.2.2.1 bt309.2.2.2.1 bt309.2.2.2.2))) else (some false)) = some r := H
  have A5 := Aside0.mk A50
  clear A50
  by_cases c6 : t307 = true
  · subst c6
    have H1 : ((soundservicemill_Mod.f a3 12).bind fun t308 => ((plug_Begin.f k a0 (IntKind.u64.wrap (1 + (Int.tmod a1 9))) (IntKind.u64.wrap (11 + (Int.tmod a2 9))) (wrap64 (1 + t308))).bind fun bt309 => (soundservicelaw33_PlugFades.l0 k (IntKind.u64.wrap (1 + (Int.tmod a1 9))) (IntKind.u64.wrap (11 + (Int.tmod a2 9))) (wrap64 (1 + t308)) 0 bt309.1 bt309.2.1 bt309.2.2.1 bt309.2.2.2.1 bt309.2.2.2.2))) = some r := by rw [if_pos rfl] at H; exact H
    clear H
    have H := H1
    clear H1
    replace H := Option.bind_eq_some_iff.mp H
    obtain ⟨t308, A70, H⟩ := H
    replace H : ((plug_Begin.f k a0 (IntKind.u64.wrap (1 + (Int.tmod a1 9))) (IntKind.u64.wrap (11 + (Int.tmod a2 9))) (wrap64 (1 + t308))).bind fun bt309 => (soundservicelaw33_PlugFades.l0 k (IntKind.u64.wrap (1 + (Int.tmod a1 9))) (IntKind.u64.wrap (11 + (Int.tmod a2 9))) (wrap64 (1 + t308)) 0 bt309.1 bt309.2.1 bt309.2.2.1 bt309.2.2.2.1 bt309.2.2.2.2)) = some r := H
    have A7 := Aside0.mk A70
    clear A70
    replace H := Option.bind_eq_some_iff.mp H
    obtain ⟨⟨t309, t310, t311, t312, t313⟩, A80, H⟩ := H
    replace H : (soundservicelaw33_PlugFades.l0 k (IntKind.u64.wrap (1 + (Int.tmod a1 9))) (IntKind.u64.wrap (11 + (Int.tmod a2 9))) (wrap64 (1 + t308)) 0 t309 t310 t311 t312 t313) = some r := H
    have A8 := Aside0.mk A80
    clear A80
    have H' := Aside0.mk H
    clear H
    go_enter Try.func7, Try.ntmps7
    go_wp2_with (first | ((with_reducible refine gate_callee (f := 20) rfl ?_); refine goesL_ (some 15) rfl rfl Try.func20 (by kernel_rfl) rfl #[] rfl (by (try simp only [List.map_toArray, List.map_cons, List.map_nil]); first | done | rfl | (simp only [List.length_drop, List.length_take]; rfl)) ?_; (with_reducible refine (soundservicelaw33_sane.calls k  true _ A5.out).mono ?_); rintro e w9 ⟨rfl, hb⟩; refine ⟨_, rfl, ?_⟩; have n0_ := Aside0.mk (below_step (by repeat (first | (with_reducible first | exact HB.out | apply below_alloc | apply pw_below_drewN | apply below_drew1) | exact HB.out)) hb); clear HB; have HB := n0_; clear n0_; (try clear hb); (try clear hb2); (try clear hk); (try clear hi)) | ((with_reducible refine gate_callee (f := 11) rfl ?_); refine goesL_ (some 18) rfl rfl Try.func11 (by kernel_rfl) rfl #[.int .i64 a3, .int .i64 12] rfl (by (try simp only [List.map_toArray, List.map_cons, List.map_nil]); first | done | rfl | (simp only [List.length_drop, List.length_take]; rfl)) ?_; (with_reducible refine (soundservicemill_Mod.calls a3 12 t308 _ A7.out).mono ?_); rintro e w' ⟨rfl, ⟨nd, rfl⟩⟩; refine ⟨_, rfl, ?_⟩; (try (rw [drewN_self w9]; generalize hq_ : World.drewN w9 _ = w9; have n0_ : Aside0 (Below w.heap.size w w9) := ⟨by rw [← hq_]; exact (by repeat (first | (with_reducible first | exact HB.out | apply below_alloc | apply pw_below_drewN | apply below_drew1) | exact HB.out))⟩; clear HB hq_; have HB := n0_; clear n0_))) | ((with_reducible refine gate_callee (f := 25) rfl ?_); refine goesL_ (some 30) rfl rfl Try.func25 (by kernel_rfl) rfl #[.int .i64 a0, .int .u64 (IntKind.u64.wrap (1 + (Int.tmod a1 9))), .int .u64 (IntKind.u64.wrap (11 + (Int.tmod a2 9))), .int .i64 (wrap64 (1 + t308))] rfl (by (try simp only [List.map_toArray, List.map_cons, List.map_nil]); first | done | rfl | (simp only [List.length_drop, List.length_take]; rfl)) ?_; (with_reducible refine (plug_Begin.calls k a0 (IntKind.u64.wrap (1 + (Int.tmod a1 9))) (IntKind.u64.wrap (11 + (Int.tmod a2 9))) (wrap64 (1 + t308)) t309 t310 t311 t312 t313 _ A8.out).mono ?_); rintro e w10 ⟨rfl, hb⟩; refine ⟨_, rfl, ?_⟩; have n0_ := Aside0.mk (below_step (by repeat (first | (with_reducible first | exact HB.out | apply below_alloc | apply pw_below_drewN | apply below_drew1) | exact HB.out)) hb); clear HB; have HB := n0_; clear n0_; (try clear hb); (try clear hb2); (try clear hk); (try clear hi)) | ((with_reducible refine gate_dst (N := 9) rfl ?_); refine box_event ?hg (N := 9) ?hd (cs := #[.int .i64 0, .int .u64 0, .int .u64 0, .int .i64 0, .int .i64 0]) (t := 37) ?hr ?_; (case hd => rfl); (case hg => rfl); (case hr => first | (go_simp; done) | (go_simp; rfl)); intro gb314 hg w11 hbox hb; have n0_ := Aside0.mk (below_step (by repeat (first | (with_reducible first | exact HB.out | apply below_alloc | apply pw_below_drewN | apply below_drew1) | exact HB.out)) hb); have n1_ := Aside0.mk (hbox); have n2_ := Aside0.mk ((by rw [hg]; exact (below_size (by repeat (first | (with_reducible first | exact HB.out | apply below_alloc | apply pw_below_drewN | apply below_drew1) | exact HB.out))) : w.heap.size ≤ gb314)); have n3_ := Aside0.mk ((by rw [hg]; exact (below_size (by repeat (first | (with_reducible first | exact HB.out | apply below_alloc | apply pw_below_drewN | apply below_drew1) | exact HB.out))) : w.heap.size ≤ gb314)); clear HB; have HB := n0_; have BK314 := n1_; have GW314 := n2_; have GE314 := n3_; clear n0_ n1_ n2_ n3_; clear hb hbox hg; have hcz12_0 : w11.cell? ⟨gb314, 0, none⟩ = some (.int .i64 0) := (blk_cell BK314.out 0).trans rfl; have hcz12_1 : w11.cell? ⟨gb314, 1, none⟩ = some (.int .u64 0) := (blk_cell BK314.out 1).trans rfl; have hcz12_2 : w11.cell? ⟨gb314, 2, none⟩ = some (.int .u64 0) := (blk_cell BK314.out 2).trans rfl; have hcz12_3 : w11.cell? ⟨gb314, 3, none⟩ = some (.int .i64 0) := (blk_cell BK314.out 3).trans rfl; have hcz12_4 : w11.cell? ⟨gb314, 4, none⟩ = some (.int .i64 0) := (blk_cell BK314.out 4).trans rfl; have hfz12_0 := blk_frozen BK314.out 0; have hfz12_1 := blk_frozen BK314.out 1; have hfz12_2 := blk_frozen BK314.out 2; have hfz12_3 := blk_frozen BK314.out 3; have hfz12_4 := blk_frozen BK314.out 4))
    go_loopg [10] k (fun kq v10 w' => ∃ (x10_1 : Int) (x315000_1 : Int) (x315001_1 : Int) (x315002_1 : Int) (x315003_1 : Int) (x315004_1 : Int), v10 = .int .i64 x10_1 ∧ Aside0 (soundservicelaw33_PlugFades.l0 kq (IntKind.u64.wrap (1 + (Int.tmod a1 9))) (IntKind.u64.wrap (11 + (Int.tmod a2 9))) (wrap64 (1 + t308)) x10_1 x315000_1 x315001_1 x315002_1 x315003_1 x315004_1 = some r) ∧ Aside0 (kq ≤ k) ∧ Aside0 (w'.heap[gb314]? = some (.cells #[.int .i64 x315000_1, .int .u64 x315001_1, .int .u64 x315002_1, .int .i64 x315003_1, .int .i64 x315004_1] 37 (0, 0))) ∧ Aside0 (Below w.heap.size w w'))
    case atStart => exact ⟨(0), (t309), (t310), (t311), (t312), (t313), (by first | rfl | (simp; done) | (simp [*]; done)), H', ⟨Nat.le_refl _⟩, ⟨by (with_reducible repeat (first | refine blk_drewN ?_ _ | refine blk_drew ?_ | refine blk_alloc ?_ _)); refine blk_put (cs := #[.int .i64 t309, .int .u64 t310, .int .u64 t311, .int .i64 t312, .int .i64 0]) ?_ 4 _ rfl; (with_reducible repeat (first | refine blk_drewN ?_ _ | refine blk_drew ?_ | refine blk_alloc ?_ _)); refine blk_put (cs := #[.int .i64 t309, .int .u64 t310, .int .u64 t311, .int .i64 0, .int .i64 0]) ?_ 3 _ rfl; (with_reducible repeat (first | refine blk_drewN ?_ _ | refine blk_drew ?_ | refine blk_alloc ?_ _)); refine blk_put (cs := #[.int .i64 t309, .int .u64 t310, .int .u64 0, .int .i64 0, .int .i64 0]) ?_ 2 _ rfl; (with_reducible repeat (first | refine blk_drewN ?_ _ | refine blk_drew ?_ | refine blk_alloc ?_ _)); refine blk_put (cs := #[.int .i64 t309, .int .u64 0, .int .u64 0, .int .i64 0, .int .i64 0]) ?_ 1 _ rfl; (with_reducible repeat (first | refine blk_drewN ?_ _ | refine blk_drew ?_ | refine blk_alloc ?_ _)); refine blk_put (cs := #[.int .i64 0, .int .u64 0, .int .u64 0, .int .i64 0, .int .i64 0]) ?_ 0 _ rfl; (with_reducible repeat (first | refine blk_drewN ?_ _ | refine blk_drew ?_ | refine blk_alloc ?_ _)); exact BK314.out⟩, ⟨by repeat (first | (with_reducible first | exact HB.out | apply below_alloc | apply pw_below_drewN | apply below_drew1 | refine below_set ?_ GE314.out) | exact HB.out)⟩⟩
    case round =>
      clear H'
      try clear c1
      try clear c2
      try clear p2
      try clear c6
      try clear p6
      try clear c7
      try clear c11
      try clear hcz12_0
      try clear hcz12_1
      try clear hcz12_2
      try clear hcz12_3
      try clear hcz12_4
      try clear hfz12_0
      try clear hfz12_1
      try clear hfz12_2
      try clear hfz12_3
      try clear hfz12_4
      obtain ⟨x10_1, x315000_1, x315001_1, x315002_1, x315003_1, x315004_1, rfl, HA, HK1, BK314, HB⟩ := hrel
      cases gk with
      | zero => exact absurd HA.out (by simp [soundservicelaw33_PlugFades.l0])
      | succ k1 =>
        have H := HA.out
        clear HA
        simp only [soundservicelaw33_PlugFades.l0] at H
        by_cases c13 : x10_1 < (wrap64 (2 * (wrap64 (1 + t308))))
        · rw [if_pos c13] at H
          have c13b0 : decide (x10_1 < (wrap64 (2 * (wrap64 (1 + t308))))) = true := decide_eq_true c13
          clear c13
          replace H := Option.bind_eq_some_iff.mp H
          obtain ⟨⟨t322, t323⟩, A140, H⟩ := H
          replace H : (if x315003_1 = 3 then (some false) else (if (t323 != (decide (x10_1 ≥ (wrap64 (1 + t308))))) = true then (some false) else (if t323 = true then (if t322 = (IntKind.u64.wrap (11 + (Int.tmod a2 9))) then ((plug_Advance.f k1 x315000_1 x315001_1 x315002_1 x315003_1 x315004_1 (wrap64 (1 + t308))).bind fun bt324 => (soundservicelaw33_PlugFades.l0 k1 (IntKind.u64.wrap (1 + (Int.tmod a1 9))) (IntKind.u64.wrap (11 + (Int.tmod a2 9))) (wrap64 (1 + t308)) (wrap64 (x10_1 + 1)) bt324.1 bt324.2.1 bt324.2.2.1 bt324.2.2.2.1 bt324.2.2.2.2)) else (some false)) else (if t322 = (IntKind.u64.wrap (1 + (Int.tmod a1 9))) then ((plug_Advance.f k1 x315000_1 x315001_1 x315002_1 x315003_1 x315004_1 (wrap64 (1 + t308))).bind fun bt329 => (soundservicelaw33_PlugFades.l0 k1 (IntKind.u64.wrap (1 + (Int.tmod a1 9))) (IntKind.u64.wrap (11 + (Int.tmod a2 9))) (wrap64 (1 + t308)) (wrap64 (x10_1 + 1)) bt329.1 bt329.2.1 bt329.2.2.1 bt329.2.2.2.1 bt329.2.2.2.2)) else (some false))))) = some r := H
          have A14 := Aside0.mk A140
          clear A140
          by_cases c15 : x315003_1 = 3
          · rw [if_pos c15] at H
            have c15b0 : (x315003_1 == 3) = true := beq_iff_eq.mpr c15
            have c15b1 : (x315003_1 != 3) = false := bne_eq_false_iff_eq.mpr c15
            clear c15
            obtain rfl := Option.some.inj H
            have hcz16_0 : wr.cell? ⟨gb314, 0, none⟩ = some (.int .i64 x315000_1) := (blk_cell BK314.out 0).trans rfl
            have hcz16_1 : wr.cell? ⟨gb314, 1, none⟩ = some (.int .u64 x315001_1) := (blk_cell BK314.out 1).trans rfl
            have hcz16_2 : wr.cell? ⟨gb314, 2, none⟩ = some (.int .u64 x315002_1) := (blk_cell BK314.out 2).trans rfl
            have hcz16_3 : wr.cell? ⟨gb314, 3, none⟩ = some (.int .i64 x315003_1) := (blk_cell BK314.out 3).trans rfl
            have hcz16_4 : wr.cell? ⟨gb314, 4, none⟩ = some (.int .i64 x315004_1) := (blk_cell BK314.out 4).trans rfl
            have hfz16_0 := blk_frozen BK314.out 0
            have hfz16_1 := blk_frozen BK314.out 1
            have hfz16_2 := blk_frozen BK314.out 2
            have hfz16_3 := blk_frozen BK314.out 3
            have hfz16_4 := blk_frozen BK314.out 4
            go_wp2_with (first | ((with_reducible refine gate_callee (f := 23) rfl ?_); refine goesL_ (some 39) rfl rfl Try.func23 (by kernel_rfl) rfl #[.agg #[.int .i64 x315000_1, .int .u64 x315001_1, .int .u64 x315002_1, .int .i64 x315003_1, .int .i64 x315004_1]] rfl (by (try simp only [List.map_toArray, List.map_cons, List.map_nil]); first | done | rfl | (simp only [List.length_drop, List.length_take]; rfl)) ?_; (with_reducible refine (plug_Wanted.calls x315000_1 x315001_1 x315002_1 x315003_1 x315004_1 t322 t323 _ A14.out).mono ?_); rintro e w17 ⟨rfl, hb⟩; refine ⟨_, rfl, ?_⟩; have n0_ := Aside0.mk (blk_below (g := gb314) (o := .cells #[.int .i64 x315000_1, .int .u64 x315001_1, .int .u64 x315002_1, .int .i64 x315003_1, .int .i64 x315004_1] 37 (0, 0)) (by (with_reducible repeat (first | refine blk_drewN ?_ _ | refine blk_drew ?_ | refine blk_alloc ?_ _)); exact BK314.out) hb); have n1_ := Aside0.mk (below_step (by repeat (first | (with_reducible first | exact HB.out | apply below_alloc | apply pw_below_drewN | apply below_drew1 | refine below_set ?_ GE314.out) | exact HB.out)) hb); clear BK314; clear HB; have BK314 := n0_; have HB := n1_; clear n0_ n1_; (try clear hb); (try clear hb2); (try clear hk); (try clear hi); have hcz18_0 : w17.cell? ⟨gb314, 0, none⟩ = some (.int .i64 x315000_1) := (blk_cell BK314.out 0).trans rfl; have hcz18_1 : w17.cell? ⟨gb314, 1, none⟩ = some (.int .u64 x315001_1) := (blk_cell BK314.out 1).trans rfl; have hcz18_2 : w17.cell? ⟨gb314, 2, none⟩ = some (.int .u64 x315002_1) := (blk_cell BK314.out 2).trans rfl; have hcz18_3 : w17.cell? ⟨gb314, 3, none⟩ = some (.int .i64 x315003_1) := (blk_cell BK314.out 3).trans rfl; have hcz18_4 : w17.cell? ⟨gb314, 4, none⟩ = some (.int .i64 x315004_1) := (blk_cell BK314.out 4).trans rfl; have hfz18_0 := blk_frozen BK314.out 0; have hfz18_1 := blk_frozen BK314.out 1; have hfz18_2 := blk_frozen BK314.out 2; have hfz18_3 := blk_frozen BK314.out 3; have hfz18_4 := blk_frozen BK314.out 4))
            go_ret
            exact ⟨by first | rfl | (simp [errW_none, errW_some] <;> rfl) | (simp [*, errW_none, errW_some] <;> rfl), by repeat (first | (with_reducible first | exact HB.out | apply below_alloc | apply pw_below_drewN | apply below_drew1 | refine below_set ?_ GE314.out) | exact HB.out)⟩
          · rw [if_neg c15] at H
            have c15b0 : (x315003_1 == 3) = false := beq_eq_false_iff_ne.mpr c15
            have c15b1 : (x315003_1 != 3) = true := bne_iff_ne.mpr c15
            by_cases c19 : (t323 != (decide (x10_1 ≥ (wrap64 (1 + t308))))) = true
            · rw [if_pos c19] at H
              have c19b0 : (t323 != (decide (x10_1 ≥ (wrap64 (1 + t308))))) = true := c19
              (try (have c19b1 : decide (t323 = (decide (x10_1 ≥ (wrap64 (1 + t308))))) = false := by simpa using c19))
              (try (have c19b2 : (t323 == (decide (x10_1 ≥ (wrap64 (1 + t308))))) = false := by simpa using c19))
              (try (have c19b3 : ¬ (t323 = (decide (x10_1 ≥ (wrap64 (1 + t308))))) := by simpa using c19))
              clear c19
              obtain rfl := Option.some.inj H
              have hcz20_0 : wr.cell? ⟨gb314, 0, none⟩ = some (.int .i64 x315000_1) := (blk_cell BK314.out 0).trans rfl
              have hcz20_1 : wr.cell? ⟨gb314, 1, none⟩ = some (.int .u64 x315001_1) := (blk_cell BK314.out 1).trans rfl
              have hcz20_2 : wr.cell? ⟨gb314, 2, none⟩ = some (.int .u64 x315002_1) := (blk_cell BK314.out 2).trans rfl
              have hcz20_3 : wr.cell? ⟨gb314, 3, none⟩ = some (.int .i64 x315003_1) := (blk_cell BK314.out 3).trans rfl
              have hcz20_4 : wr.cell? ⟨gb314, 4, none⟩ = some (.int .i64 x315004_1) := (blk_cell BK314.out 4).trans rfl
              have hfz20_0 := blk_frozen BK314.out 0
              have hfz20_1 := blk_frozen BK314.out 1
              have hfz20_2 := blk_frozen BK314.out 2
              have hfz20_3 := blk_frozen BK314.out 3
              have hfz20_4 := blk_frozen BK314.out 4
              go_wp2_with (first | ((with_reducible refine gate_callee (f := 23) rfl ?_); refine goesL_ (some 39) rfl rfl Try.func23 (by kernel_rfl) rfl #[.agg #[.int .i64 x315000_1, .int .u64 x315001_1, .int .u64 x315002_1, .int .i64 x315003_1, .int .i64 x315004_1]] rfl (by (try simp only [List.map_toArray, List.map_cons, List.map_nil]); first | done | rfl | (simp only [List.length_drop, List.length_take]; rfl)) ?_; (with_reducible refine (plug_Wanted.calls x315000_1 x315001_1 x315002_1 x315003_1 x315004_1 t322 t323 _ A14.out).mono ?_); rintro e w21 ⟨rfl, hb⟩; refine ⟨_, rfl, ?_⟩; have n0_ := Aside0.mk (blk_below (g := gb314) (o := .cells #[.int .i64 x315000_1, .int .u64 x315001_1, .int .u64 x315002_1, .int .i64 x315003_1, .int .i64 x315004_1] 37 (0, 0)) (by (with_reducible repeat (first | refine blk_drewN ?_ _ | refine blk_drew ?_ | refine blk_alloc ?_ _)); exact BK314.out) hb); have n1_ := Aside0.mk (below_step (by repeat (first | (with_reducible first | exact HB.out | apply below_alloc | apply pw_below_drewN | apply below_drew1 | refine below_set ?_ GE314.out) | exact HB.out)) hb); clear BK314; clear HB; have BK314 := n0_; have HB := n1_; clear n0_ n1_; (try clear hb); (try clear hb2); (try clear hk); (try clear hi); have hcz22_0 : w21.cell? ⟨gb314, 0, none⟩ = some (.int .i64 x315000_1) := (blk_cell BK314.out 0).trans rfl; have hcz22_1 : w21.cell? ⟨gb314, 1, none⟩ = some (.int .u64 x315001_1) := (blk_cell BK314.out 1).trans rfl; have hcz22_2 : w21.cell? ⟨gb314, 2, none⟩ = some (.int .u64 x315002_1) := (blk_cell BK314.out 2).trans rfl; have hcz22_3 : w21.cell? ⟨gb314, 3, none⟩ = some (.int .i64 x315003_1) := (blk_cell BK314.out 3).trans rfl; have hcz22_4 : w21.cell? ⟨gb314, 4, none⟩ = some (.int .i64 x315004_1) := (blk_cell BK314.out 4).trans rfl; have hfz22_0 := blk_frozen BK314.out 0; have hfz22_1 := blk_frozen BK314.out 1; have hfz22_2 := blk_frozen BK314.out 2; have hfz22_3 := blk_frozen BK314.out 3; have hfz22_4 := blk_frozen BK314.out 4))
              go_ret
              exact ⟨by first | rfl | (simp [errW_none, errW_some] <;> rfl) | (simp [*, errW_none, errW_some] <;> rfl), by repeat (first | (with_reducible first | exact HB.out | apply below_alloc | apply pw_below_drewN | apply below_drew1 | refine below_set ?_ GE314.out) | exact HB.out)⟩
            · rw [if_neg c19] at H
              have c19b0 : (t323 != (decide (x10_1 ≥ (wrap64 (1 + t308))))) = false := by simpa using c19
              (try (have c19b1 : decide (t323 = (decide (x10_1 ≥ (wrap64 (1 + t308))))) = true := by simpa using c19))
              (try (have c19b2 : (t323 == (decide (x10_1 ≥ (wrap64 (1 + t308))))) = true := by simpa using c19))
              clear c19
              by_cases c23 : t323 = true
              · subst c23
                have H1 : (if t322 = (IntKind.u64.wrap (11 + (Int.tmod a2 9))) then ((plug_Advance.f k1 x315000_1 x315001_1 x315002_1 x315003_1 x315004_1 (wrap64 (1 + t308))).bind fun bt324 => (soundservicelaw33_PlugFades.l0 k1 (IntKind.u64.wrap (1 + (Int.tmod a1 9))) (IntKind.u64.wrap (11 + (Int.tmod a2 9))) (wrap64 (1 + t308)) (wrap64 (x10_1 + 1)) bt324.1 bt324.2.1 bt324.2.2.1 bt324.2.2.2.1 bt324.2.2.2.2)) else (some false)) = some r := by rw [if_pos rfl] at H; exact H
                clear H
                have H := H1
                clear H1
                by_cases c24 : t322 = (IntKind.u64.wrap (11 + (Int.tmod a2 9)))
                · rw [if_pos c24] at H
                  have c24b0 : (t322 == (IntKind.u64.wrap (11 + (Int.tmod a2 9)))) = true := beq_iff_eq.mpr c24
                  have c24b1 : (t322 != (IntKind.u64.wrap (11 + (Int.tmod a2 9)))) = false := bne_eq_false_iff_eq.mpr c24
                  clear c24
                  replace H := Option.bind_eq_some_iff.mp H
                  obtain ⟨⟨t324, t325, t326, t327, t328⟩, A250, H⟩ := H
                  replace H : (soundservicelaw33_PlugFades.l0 k1 (IntKind.u64.wrap (1 + (Int.tmod a1 9))) (IntKind.u64.wrap (11 + (Int.tmod a2 9))) (wrap64 (1 + t308)) (wrap64 (x10_1 + 1)) t324 t325 t326 t327 t328) = some r := H
                  have A25 := Aside0.mk A250
                  clear A250
                  have H' := Aside0.mk H
                  clear H
                  have hcz26_0 : wr.cell? ⟨gb314, 0, none⟩ = some (.int .i64 x315000_1) := (blk_cell BK314.out 0).trans rfl
                  have hcz26_1 : wr.cell? ⟨gb314, 1, none⟩ = some (.int .u64 x315001_1) := (blk_cell BK314.out 1).trans rfl
                  have hcz26_2 : wr.cell? ⟨gb314, 2, none⟩ = some (.int .u64 x315002_1) := (blk_cell BK314.out 2).trans rfl
                  have hcz26_3 : wr.cell? ⟨gb314, 3, none⟩ = some (.int .i64 x315003_1) := (blk_cell BK314.out 3).trans rfl
                  have hcz26_4 : wr.cell? ⟨gb314, 4, none⟩ = some (.int .i64 x315004_1) := (blk_cell BK314.out 4).trans rfl
                  have hfz26_0 := blk_frozen BK314.out 0
                  have hfz26_1 := blk_frozen BK314.out 1
                  have hfz26_2 := blk_frozen BK314.out 2
                  have hfz26_3 := blk_frozen BK314.out 3
                  have hfz26_4 := blk_frozen BK314.out 4
                  go_wp2_with (first | ((with_reducible refine gate_callee (f := 23) rfl ?_); refine goesL_ (some 39) rfl rfl Try.func23 (by kernel_rfl) rfl #[.agg #[.int .i64 x315000_1, .int .u64 x315001_1, .int .u64 x315002_1, .int .i64 x315003_1, .int .i64 x315004_1]] rfl (by (try simp only [List.map_toArray, List.map_cons, List.map_nil]); first | done | rfl | (simp only [List.length_drop, List.length_take]; rfl)) ?_; (with_reducible refine (plug_Wanted.calls x315000_1 x315001_1 x315002_1 x315003_1 x315004_1 t322 true _ A14.out).mono ?_); rintro e w27 ⟨rfl, hb⟩; refine ⟨_, rfl, ?_⟩; have n0_ := Aside0.mk (blk_below (g := gb314) (o := .cells #[.int .i64 x315000_1, .int .u64 x315001_1, .int .u64 x315002_1, .int .i64 x315003_1, .int .i64 x315004_1] 37 (0, 0)) (by (with_reducible repeat (first | refine blk_drewN ?_ _ | refine blk_drew ?_ | refine blk_alloc ?_ _)); exact BK314.out) hb); have n1_ := Aside0.mk (below_step (by repeat (first | (with_reducible first | exact HB.out | apply below_alloc | apply pw_below_drewN | apply below_drew1 | refine below_set ?_ GE314.out) | exact HB.out)) hb); clear BK314; clear HB; have BK314 := n0_; have HB := n1_; clear n0_ n1_; (try clear hb); (try clear hb2); (try clear hk); (try clear hi); have hcz28_0 : w27.cell? ⟨gb314, 0, none⟩ = some (.int .i64 x315000_1) := (blk_cell BK314.out 0).trans rfl; have hcz28_1 : w27.cell? ⟨gb314, 1, none⟩ = some (.int .u64 x315001_1) := (blk_cell BK314.out 1).trans rfl; have hcz28_2 : w27.cell? ⟨gb314, 2, none⟩ = some (.int .u64 x315002_1) := (blk_cell BK314.out 2).trans rfl; have hcz28_3 : w27.cell? ⟨gb314, 3, none⟩ = some (.int .i64 x315003_1) := (blk_cell BK314.out 3).trans rfl; have hcz28_4 : w27.cell? ⟨gb314, 4, none⟩ = some (.int .i64 x315004_1) := (blk_cell BK314.out 4).trans rfl; have hfz28_0 := blk_frozen BK314.out 0; have hfz28_1 := blk_frozen BK314.out 1; have hfz28_2 := blk_frozen BK314.out 2; have hfz28_3 := blk_frozen BK314.out 3; have hfz28_4 := blk_frozen BK314.out 4) | ((with_reducible refine gate_callee (f := 21) rfl ?_); refine goesL_ (some 71) rfl rfl Try.func21 (by kernel_rfl) rfl #[.agg #[.int .i64 x315000_1, .int .u64 x315001_1, .int .u64 x315002_1, .int .i64 x315003_1, .int .i64 x315004_1], .int .i64 (wrap64 (1 + t308))] rfl (by (try simp only [List.map_toArray, List.map_cons, List.map_nil]); first | done | rfl | (simp only [List.length_drop, List.length_take]; rfl)) ?_; (with_reducible refine (plug_Advance.calls k1 x315000_1 x315001_1 x315002_1 x315003_1 x315004_1 (wrap64 (1 + t308)) t324 t325 t326 t327 t328 _ A25.out).mono ?_); rintro e w29 ⟨rfl, hb⟩; refine ⟨_, rfl, ?_⟩; have n0_ := Aside0.mk (blk_below (g := gb314) (o := .cells #[.int .i64 x315000_1, .int .u64 x315001_1, .int .u64 x315002_1, .int .i64 x315003_1, .int .i64 x315004_1] 37 (0, 0)) (by (with_reducible repeat (first | refine blk_drewN ?_ _ | refine blk_drew ?_ | refine blk_alloc ?_ _)); exact BK314.out) hb); have n1_ := Aside0.mk (below_step (by repeat (first | (with_reducible first | exact HB.out | apply below_alloc | apply pw_below_drewN | apply below_drew1 | refine below_set ?_ GE314.out) | exact HB.out)) hb); clear BK314; clear HB; have BK314 := n0_; have HB := n1_; clear n0_ n1_; (try clear hb); (try clear hb2); (try clear hk); (try clear hi); have hcz30_0 : w29.cell? ⟨gb314, 0, none⟩ = some (.int .i64 x315000_1) := (blk_cell BK314.out 0).trans rfl; have hcz30_1 : w29.cell? ⟨gb314, 1, none⟩ = some (.int .u64 x315001_1) := (blk_cell BK314.out 1).trans rfl; have hcz30_2 : w29.cell? ⟨gb314, 2, none⟩ = some (.int .u64 x315002_1) := (blk_cell BK314.out 2).trans rfl; have hcz30_3 : w29.cell? ⟨gb314, 3, none⟩ = some (.int .i64 x315003_1) := (blk_cell BK314.out 3).trans rfl; have hcz30_4 : w29.cell? ⟨gb314, 4, none⟩ = some (.int .i64 x315004_1) := (blk_cell BK314.out 4).trans rfl; have hfz30_0 := blk_frozen BK314.out 0; have hfz30_1 := blk_frozen BK314.out 1; have hfz30_2 := blk_frozen BK314.out 2; have hfz30_3 := blk_frozen BK314.out 3; have hfz30_4 := blk_frozen BK314.out 4))
                  go_roundg k1
                  case measure => have := HK1.out; omega
                  case rel => exact ⟨(wrap64 (x10_1 + 1)), (t324), (t325), (t326), (t327), (t328), (by first | rfl | (simp; done) | (simp [*]; done)), H', ⟨by have := HK1.out; omega⟩, ⟨by (with_reducible repeat (first | refine blk_drewN ?_ _ | refine blk_drew ?_ | refine blk_alloc ?_ _)); refine blk_put (cs := #[.int .i64 t324, .int .u64 t325, .int .u64 t326, .int .i64 t327, .int .i64 x315004_1]) ?_ 4 _ rfl; (with_reducible repeat (first | refine blk_drewN ?_ _ | refine blk_drew ?_ | refine blk_alloc ?_ _)); refine blk_put (cs := #[.int .i64 t324, .int .u64 t325, .int .u64 t326, .int .i64 x315003_1, .int .i64 x315004_1]) ?_ 3 _ rfl; (with_reducible repeat (first | refine blk_drewN ?_ _ | refine blk_drew ?_ | refine blk_alloc ?_ _)); refine blk_put (cs := #[.int .i64 t324, .int .u64 t325, .int .u64 x315002_1, .int .i64 x315003_1, .int .i64 x315004_1]) ?_ 2 _ rfl; (with_reducible repeat (first | refine blk_drewN ?_ _ | refine blk_drew ?_ | refine blk_alloc ?_ _)); refine blk_put (cs := #[.int .i64 t324, .int .u64 x315001_1, .int .u64 x315002_1, .int .i64 x315003_1, .int .i64 x315004_1]) ?_ 1 _ rfl; (with_reducible repeat (first | refine blk_drewN ?_ _ | refine blk_drew ?_ | refine blk_alloc ?_ _)); refine blk_put (cs := #[.int .i64 x315000_1, .int .u64 x315001_1, .int .u64 x315002_1, .int .i64 x315003_1, .int .i64 x315004_1]) ?_ 0 _ rfl; (with_reducible repeat (first | refine blk_drewN ?_ _ | refine blk_drew ?_ | refine blk_alloc ?_ _)); exact BK314.out⟩, ⟨by repeat (first | (with_reducible first | exact HB.out | apply below_alloc | apply pw_below_drewN | apply below_drew1 | refine below_set ?_ GE314.out) | exact HB.out)⟩⟩
                · rw [if_neg c24] at H
                  have c24b0 : (t322 == (IntKind.u64.wrap (11 + (Int.tmod a2 9)))) = false := beq_eq_false_iff_ne.mpr c24
                  have c24b1 : (t322 != (IntKind.u64.wrap (11 + (Int.tmod a2 9)))) = true := bne_iff_ne.mpr c24
                  obtain rfl := Option.some.inj H
                  have hcz31_0 : wr.cell? ⟨gb314, 0, none⟩ = some (.int .i64 x315000_1) := (blk_cell BK314.out 0).trans rfl
                  have hcz31_1 : wr.cell? ⟨gb314, 1, none⟩ = some (.int .u64 x315001_1) := (blk_cell BK314.out 1).trans rfl
                  have hcz31_2 : wr.cell? ⟨gb314, 2, none⟩ = some (.int .u64 x315002_1) := (blk_cell BK314.out 2).trans rfl
                  have hcz31_3 : wr.cell? ⟨gb314, 3, none⟩ = some (.int .i64 x315003_1) := (blk_cell BK314.out 3).trans rfl
                  have hcz31_4 : wr.cell? ⟨gb314, 4, none⟩ = some (.int .i64 x315004_1) := (blk_cell BK314.out 4).trans rfl
                  have hfz31_0 := blk_frozen BK314.out 0
                  have hfz31_1 := blk_frozen BK314.out 1
                  have hfz31_2 := blk_frozen BK314.out 2
                  have hfz31_3 := blk_frozen BK314.out 3
                  have hfz31_4 := blk_frozen BK314.out 4
                  go_wp2_with (first | ((with_reducible refine gate_callee (f := 23) rfl ?_); refine goesL_ (some 39) rfl rfl Try.func23 (by kernel_rfl) rfl #[.agg #[.int .i64 x315000_1, .int .u64 x315001_1, .int .u64 x315002_1, .int .i64 x315003_1, .int .i64 x315004_1]] rfl (by (try simp only [List.map_toArray, List.map_cons, List.map_nil]); first | done | rfl | (simp only [List.length_drop, List.length_take]; rfl)) ?_; (with_reducible refine (plug_Wanted.calls x315000_1 x315001_1 x315002_1 x315003_1 x315004_1 t322 true _ A14.out).mono ?_); rintro e w32 ⟨rfl, hb⟩; refine ⟨_, rfl, ?_⟩; have n0_ := Aside0.mk (blk_below (g := gb314) (o := .cells #[.int .i64 x315000_1, .int .u64 x315001_1, .int .u64 x315002_1, .int .i64 x315003_1, .int .i64 x315004_1] 37 (0, 0)) (by (with_reducible repeat (first | refine blk_drewN ?_ _ | refine blk_drew ?_ | refine blk_alloc ?_ _)); exact BK314.out) hb); have n1_ := Aside0.mk (below_step (by repeat (first | (with_reducible first | exact HB.out | apply below_alloc | apply pw_below_drewN | apply below_drew1 | refine below_set ?_ GE314.out) | exact HB.out)) hb); clear BK314; clear HB; have BK314 := n0_; have HB := n1_; clear n0_ n1_; (try clear hb); (try clear hb2); (try clear hk); (try clear hi); have hcz33_0 : w32.cell? ⟨gb314, 0, none⟩ = some (.int .i64 x315000_1) := (blk_cell BK314.out 0).trans rfl; have hcz33_1 : w32.cell? ⟨gb314, 1, none⟩ = some (.int .u64 x315001_1) := (blk_cell BK314.out 1).trans rfl; have hcz33_2 : w32.cell? ⟨gb314, 2, none⟩ = some (.int .u64 x315002_1) := (blk_cell BK314.out 2).trans rfl; have hcz33_3 : w32.cell? ⟨gb314, 3, none⟩ = some (.int .i64 x315003_1) := (blk_cell BK314.out 3).trans rfl; have hcz33_4 : w32.cell? ⟨gb314, 4, none⟩ = some (.int .i64 x315004_1) := (blk_cell BK314.out 4).trans rfl; have hfz33_0 := blk_frozen BK314.out 0; have hfz33_1 := blk_frozen BK314.out 1; have hfz33_2 := blk_frozen BK314.out 2; have hfz33_3 := blk_frozen BK314.out 3; have hfz33_4 := blk_frozen BK314.out 4))
                  go_ret
                  exact ⟨by first | rfl | (simp [errW_none, errW_some] <;> rfl) | (simp [*, errW_none, errW_some] <;> rfl), by repeat (first | (with_reducible first | exact HB.out | apply below_alloc | apply pw_below_drewN | apply below_drew1 | refine below_set ?_ GE314.out) | exact HB.out)⟩
              · replace c23 := Bool.eq_false_iff.mpr c23
                subst c23
                have H1 : (if t322 = (IntKind.u64.wrap (1 + (Int.tmod a1 9))) then ((plug_Advance.f k1 x315000_1 x315001_1 x315002_1 x315003_1 x315004_1 (wrap64 (1 + t308))).bind fun bt329 => (soundservicelaw33_PlugFades.l0 k1 (IntKind.u64.wrap (1 + (Int.tmod a1 9))) (IntKind.u64.wrap (11 + (Int.tmod a2 9))) (wrap64 (1 + t308)) (wrap64 (x10_1 + 1)) bt329.1 bt329.2.1 bt329.2.2.1 bt329.2.2.2.1 bt329.2.2.2.2)) else (some false)) = some r := by rw [if_neg (show ¬ (false = true) by decide)] at H; exact H
                clear H
                have H := H1
                clear H1
                by_cases c34 : t322 = (IntKind.u64.wrap (1 + (Int.tmod a1 9)))
                · rw [if_pos c34] at H
                  have c34b0 : (t322 == (IntKind.u64.wrap (1 + (Int.tmod a1 9)))) = true := beq_iff_eq.mpr c34
                  have c34b1 : (t322 != (IntKind.u64.wrap (1 + (Int.tmod a1 9)))) = false := bne_eq_false_iff_eq.mpr c34
                  clear c34
                  replace H := Option.bind_eq_some_iff.mp H
                  obtain ⟨⟨t329, t330, t331, t332, t333⟩, A350, H⟩ := H
                  replace H : (soundservicelaw33_PlugFades.l0 k1 (IntKind.u64.wrap (1 + (Int.tmod a1 9))) (IntKind.u64.wrap (11 + (Int.tmod a2 9))) (wrap64 (1 + t308)) (wrap64 (x10_1 + 1)) t329 t330 t331 t332 t333) = some r := H
                  have A35 := Aside0.mk A350
                  clear A350
                  have H' := Aside0.mk H
                  clear H
                  have hcz36_0 : wr.cell? ⟨gb314, 0, none⟩ = some (.int .i64 x315000_1) := (blk_cell BK314.out 0).trans rfl
                  have hcz36_1 : wr.cell? ⟨gb314, 1, none⟩ = some (.int .u64 x315001_1) := (blk_cell BK314.out 1).trans rfl
                  have hcz36_2 : wr.cell? ⟨gb314, 2, none⟩ = some (.int .u64 x315002_1) := (blk_cell BK314.out 2).trans rfl
                  have hcz36_3 : wr.cell? ⟨gb314, 3, none⟩ = some (.int .i64 x315003_1) := (blk_cell BK314.out 3).trans rfl
                  have hcz36_4 : wr.cell? ⟨gb314, 4, none⟩ = some (.int .i64 x315004_1) := (blk_cell BK314.out 4).trans rfl
                  have hfz36_0 := blk_frozen BK314.out 0
                  have hfz36_1 := blk_frozen BK314.out 1
                  have hfz36_2 := blk_frozen BK314.out 2
                  have hfz36_3 := blk_frozen BK314.out 3
                  have hfz36_4 := blk_frozen BK314.out 4
                  go_wp2_with (first | ((with_reducible refine gate_callee (f := 23) rfl ?_); refine goesL_ (some 39) rfl rfl Try.func23 (by kernel_rfl) rfl #[.agg #[.int .i64 x315000_1, .int .u64 x315001_1, .int .u64 x315002_1, .int .i64 x315003_1, .int .i64 x315004_1]] rfl (by (try simp only [List.map_toArray, List.map_cons, List.map_nil]); first | done | rfl | (simp only [List.length_drop, List.length_take]; rfl)) ?_; (with_reducible refine (plug_Wanted.calls x315000_1 x315001_1 x315002_1 x315003_1 x315004_1 t322 false _ A14.out).mono ?_); rintro e w37 ⟨rfl, hb⟩; refine ⟨_, rfl, ?_⟩; have n0_ := Aside0.mk (blk_below (g := gb314) (o := .cells #[.int .i64 x315000_1, .int .u64 x315001_1, .int .u64 x315002_1, .int .i64 x315003_1, .int .i64 x315004_1] 37 (0, 0)) (by (with_reducible repeat (first | refine blk_drewN ?_ _ | refine blk_drew ?_ | refine blk_alloc ?_ _)); exact BK314.out) hb); have n1_ := Aside0.mk (below_step (by repeat (first | (with_reducible first | exact HB.out | apply below_alloc | apply pw_below_drewN | apply below_drew1 | refine below_set ?_ GE314.out) | exact HB.out)) hb); clear BK314; clear HB; have BK314 := n0_; have HB := n1_; clear n0_ n1_; (try clear hb); (try clear hb2); (try clear hk); (try clear hi); have hcz38_0 : w37.cell? ⟨gb314, 0, none⟩ = some (.int .i64 x315000_1) := (blk_cell BK314.out 0).trans rfl; have hcz38_1 : w37.cell? ⟨gb314, 1, none⟩ = some (.int .u64 x315001_1) := (blk_cell BK314.out 1).trans rfl; have hcz38_2 : w37.cell? ⟨gb314, 2, none⟩ = some (.int .u64 x315002_1) := (blk_cell BK314.out 2).trans rfl; have hcz38_3 : w37.cell? ⟨gb314, 3, none⟩ = some (.int .i64 x315003_1) := (blk_cell BK314.out 3).trans rfl; have hcz38_4 : w37.cell? ⟨gb314, 4, none⟩ = some (.int .i64 x315004_1) := (blk_cell BK314.out 4).trans rfl; have hfz38_0 := blk_frozen BK314.out 0; have hfz38_1 := blk_frozen BK314.out 1; have hfz38_2 := blk_frozen BK314.out 2; have hfz38_3 := blk_frozen BK314.out 3; have hfz38_4 := blk_frozen BK314.out 4) | ((with_reducible refine gate_callee (f := 21) rfl ?_); refine goesL_ (some 71) rfl rfl Try.func21 (by kernel_rfl) rfl #[.agg #[.int .i64 x315000_1, .int .u64 x315001_1, .int .u64 x315002_1, .int .i64 x315003_1, .int .i64 x315004_1], .int .i64 (wrap64 (1 + t308))] rfl (by (try simp only [List.map_toArray, List.map_cons, List.map_nil]); first | done | rfl | (simp only [List.length_drop, List.length_take]; rfl)) ?_; (with_reducible refine (plug_Advance.calls k1 x315000_1 x315001_1 x315002_1 x315003_1 x315004_1 (wrap64 (1 + t308)) t329 t330 t331 t332 t333 _ A35.out).mono ?_); rintro e w39 ⟨rfl, hb⟩; refine ⟨_, rfl, ?_⟩; have n0_ := Aside0.mk (blk_below (g := gb314) (o := .cells #[.int .i64 x315000_1, .int .u64 x315001_1, .int .u64 x315002_1, .int .i64 x315003_1, .int .i64 x315004_1] 37 (0, 0)) (by (with_reducible repeat (first | refine blk_drewN ?_ _ | refine blk_drew ?_ | refine blk_alloc ?_ _)); exact BK314.out) hb); have n1_ := Aside0.mk (below_step (by repeat (first | (with_reducible first | exact HB.out | apply below_alloc | apply pw_below_drewN | apply below_drew1 | refine below_set ?_ GE314.out) | exact HB.out)) hb); clear BK314; clear HB; have BK314 := n0_; have HB := n1_; clear n0_ n1_; (try clear hb); (try clear hb2); (try clear hk); (try clear hi); have hcz40_0 : w39.cell? ⟨gb314, 0, none⟩ = some (.int .i64 x315000_1) := (blk_cell BK314.out 0).trans rfl; have hcz40_1 : w39.cell? ⟨gb314, 1, none⟩ = some (.int .u64 x315001_1) := (blk_cell BK314.out 1).trans rfl; have hcz40_2 : w39.cell? ⟨gb314, 2, none⟩ = some (.int .u64 x315002_1) := (blk_cell BK314.out 2).trans rfl; have hcz40_3 : w39.cell? ⟨gb314, 3, none⟩ = some (.int .i64 x315003_1) := (blk_cell BK314.out 3).trans rfl; have hcz40_4 : w39.cell? ⟨gb314, 4, none⟩ = some (.int .i64 x315004_1) := (blk_cell BK314.out 4).trans rfl; have hfz40_0 := blk_frozen BK314.out 0; have hfz40_1 := blk_frozen BK314.out 1; have hfz40_2 := blk_frozen BK314.out 2; have hfz40_3 := blk_frozen BK314.out 3; have hfz40_4 := blk_frozen BK314.out 4))
                  go_roundg k1
                  case measure => have := HK1.out; omega
                  case rel => exact ⟨(wrap64 (x10_1 + 1)), (t329), (t330), (t331), (t332), (t333), (by first | rfl | (simp; done) | (simp [*]; done)), H', ⟨by have := HK1.out; omega⟩, ⟨by (with_reducible repeat (first | refine blk_drewN ?_ _ | refine blk_drew ?_ | refine blk_alloc ?_ _)); refine blk_put (cs := #[.int .i64 t329, .int .u64 t330, .int .u64 t331, .int .i64 t332, .int .i64 x315004_1]) ?_ 4 _ rfl; (with_reducible repeat (first | refine blk_drewN ?_ _ | refine blk_drew ?_ | refine blk_alloc ?_ _)); refine blk_put (cs := #[.int .i64 t329, .int .u64 t330, .int .u64 t331, .int .i64 x315003_1, .int .i64 x315004_1]) ?_ 3 _ rfl; (with_reducible repeat (first | refine blk_drewN ?_ _ | refine blk_drew ?_ | refine blk_alloc ?_ _)); refine blk_put (cs := #[.int .i64 t329, .int .u64 t330, .int .u64 x315002_1, .int .i64 x315003_1, .int .i64 x315004_1]) ?_ 2 _ rfl; (with_reducible repeat (first | refine blk_drewN ?_ _ | refine blk_drew ?_ | refine blk_alloc ?_ _)); refine blk_put (cs := #[.int .i64 t329, .int .u64 x315001_1, .int .u64 x315002_1, .int .i64 x315003_1, .int .i64 x315004_1]) ?_ 1 _ rfl; (with_reducible repeat (first | refine blk_drewN ?_ _ | refine blk_drew ?_ | refine blk_alloc ?_ _)); refine blk_put (cs := #[.int .i64 x315000_1, .int .u64 x315001_1, .int .u64 x315002_1, .int .i64 x315003_1, .int .i64 x315004_1]) ?_ 0 _ rfl; (with_reducible repeat (first | refine blk_drewN ?_ _ | refine blk_drew ?_ | refine blk_alloc ?_ _)); exact BK314.out⟩, ⟨by repeat (first | (with_reducible first | exact HB.out | apply below_alloc | apply pw_below_drewN | apply below_drew1 | refine below_set ?_ GE314.out) | exact HB.out)⟩⟩
                · rw [if_neg c34] at H
                  have c34b0 : (t322 == (IntKind.u64.wrap (1 + (Int.tmod a1 9)))) = false := beq_eq_false_iff_ne.mpr c34
                  have c34b1 : (t322 != (IntKind.u64.wrap (1 + (Int.tmod a1 9)))) = true := bne_iff_ne.mpr c34
                  obtain rfl := Option.some.inj H
                  have hcz41_0 : wr.cell? ⟨gb314, 0, none⟩ = some (.int .i64 x315000_1) := (blk_cell BK314.out 0).trans rfl
                  have hcz41_1 : wr.cell? ⟨gb314, 1, none⟩ = some (.int .u64 x315001_1) := (blk_cell BK314.out 1).trans rfl
                  have hcz41_2 : wr.cell? ⟨gb314, 2, none⟩ = some (.int .u64 x315002_1) := (blk_cell BK314.out 2).trans rfl
                  have hcz41_3 : wr.cell? ⟨gb314, 3, none⟩ = some (.int .i64 x315003_1) := (blk_cell BK314.out 3).trans rfl
                  have hcz41_4 : wr.cell? ⟨gb314, 4, none⟩ = some (.int .i64 x315004_1) := (blk_cell BK314.out 4).trans rfl
                  have hfz41_0 := blk_frozen BK314.out 0
                  have hfz41_1 := blk_frozen BK314.out 1
                  have hfz41_2 := blk_frozen BK314.out 2
                  have hfz41_3 := blk_frozen BK314.out 3
                  have hfz41_4 := blk_frozen BK314.out 4
                  go_wp2_with (first | ((with_reducible refine gate_callee (f := 23) rfl ?_); refine goesL_ (some 39) rfl rfl Try.func23 (by kernel_rfl) rfl #[.agg #[.int .i64 x315000_1, .int .u64 x315001_1, .int .u64 x315002_1, .int .i64 x315003_1, .int .i64 x315004_1]] rfl (by (try simp only [List.map_toArray, List.map_cons, List.map_nil]); first | done | rfl | (simp only [List.length_drop, List.length_take]; rfl)) ?_; (with_reducible refine (plug_Wanted.calls x315000_1 x315001_1 x315002_1 x315003_1 x315004_1 t322 false _ A14.out).mono ?_); rintro e w42 ⟨rfl, hb⟩; refine ⟨_, rfl, ?_⟩; have n0_ := Aside0.mk (blk_below (g := gb314) (o := .cells #[.int .i64 x315000_1, .int .u64 x315001_1, .int .u64 x315002_1, .int .i64 x315003_1, .int .i64 x315004_1] 37 (0, 0)) (by (with_reducible repeat (first | refine blk_drewN ?_ _ | refine blk_drew ?_ | refine blk_alloc ?_ _)); exact BK314.out) hb); have n1_ := Aside0.mk (below_step (by repeat (first | (with_reducible first | exact HB.out | apply below_alloc | apply pw_below_drewN | apply below_drew1 | refine below_set ?_ GE314.out) | exact HB.out)) hb); clear BK314; clear HB; have BK314 := n0_; have HB := n1_; clear n0_ n1_; (try clear hb); (try clear hb2); (try clear hk); (try clear hi); have hcz43_0 : w42.cell? ⟨gb314, 0, none⟩ = some (.int .i64 x315000_1) := (blk_cell BK314.out 0).trans rfl; have hcz43_1 : w42.cell? ⟨gb314, 1, none⟩ = some (.int .u64 x315001_1) := (blk_cell BK314.out 1).trans rfl; have hcz43_2 : w42.cell? ⟨gb314, 2, none⟩ = some (.int .u64 x315002_1) := (blk_cell BK314.out 2).trans rfl; have hcz43_3 : w42.cell? ⟨gb314, 3, none⟩ = some (.int .i64 x315003_1) := (blk_cell BK314.out 3).trans rfl; have hcz43_4 : w42.cell? ⟨gb314, 4, none⟩ = some (.int .i64 x315004_1) := (blk_cell BK314.out 4).trans rfl; have hfz43_0 := blk_frozen BK314.out 0; have hfz43_1 := blk_frozen BK314.out 1; have hfz43_2 := blk_frozen BK314.out 2; have hfz43_3 := blk_frozen BK314.out 3; have hfz43_4 := blk_frozen BK314.out 4))
                  go_ret
                  exact ⟨by first | rfl | (simp [errW_none, errW_some] <;> rfl) | (simp [*, errW_none, errW_some] <;> rfl), by repeat (first | (with_reducible first | exact HB.out | apply below_alloc | apply pw_below_drewN | apply below_drew1 | refine below_set ?_ GE314.out) | exact HB.out)⟩
        · rw [if_neg c13] at H
          have c13b0 : decide (x10_1 < (wrap64 (2 * (wrap64 (1 + t308))))) = false := decide_eq_false c13
          clear c13
          replace H := Option.bind_eq_some_iff.mp H
          obtain ⟨⟨t315, t316⟩, A440, H⟩ := H
          replace H : (if x315003_1 = 3 then (if t315 = (IntKind.u64.wrap (11 + (Int.tmod a2 9))) then (if t316 = true then ((plug_Advance.f k1 x315000_1 x315001_1 x315002_1 x315003_1 x315004_1 (wrap64 (1 + t308))).bind fun bt317 => (some (bt317.1 == x315000_1 && (bt317.2.1 == x315001_1 && (bt317.2.2.1 == x315002_1 && (bt317.2.2.2.1 == x315003_1 && (bt317.2.2.2.2 == x315004_1))))))) else (some false)) else (some false)) else (some false)) = some r := H
          have A44 := Aside0.mk A440
          clear A440
          by_cases c45 : x315003_1 = 3
          · rw [if_pos c45] at H
            have c45b0 : (x315003_1 == 3) = true := beq_iff_eq.mpr c45
            have c45b1 : (x315003_1 != 3) = false := bne_eq_false_iff_eq.mpr c45
            clear c45
            by_cases c46 : t315 = (IntKind.u64.wrap (11 + (Int.tmod a2 9)))
            · rw [if_pos c46] at H
              have c46b0 : (t315 == (IntKind.u64.wrap (11 + (Int.tmod a2 9)))) = true := beq_iff_eq.mpr c46
              have c46b1 : (t315 != (IntKind.u64.wrap (11 + (Int.tmod a2 9)))) = false := bne_eq_false_iff_eq.mpr c46
              clear c46
              by_cases c47 : t316 = true
              · subst c47
                have H1 : ((plug_Advance.f k1 x315000_1 x315001_1 x315002_1 x315003_1 x315004_1 (wrap64 (1 + t308))).bind fun bt317 => (some (bt317.1 == x315000_1 && (bt317.2.1 == x315001_1 && (bt317.2.2.1 == x315002_1 && (bt317.2.2.2.1 == x315003_1 && (bt317.2.2.2.2 == x315004_1))))))) = some r := by rw [if_pos rfl] at H; exact H
                clear H
                have H := H1
                clear H1
                replace H := Option.bind_eq_some_iff.mp H
                obtain ⟨⟨t317, t318, t319, t320, t321⟩, A480, H⟩ := H
                replace H : (some (t317 == x315000_1 && (t318 == x315001_1 && (t319 == x315002_1 && (t320 == x315003_1 && (t321 == x315004_1)))))) = some r := H
                have A48 := Aside0.mk A480
                clear A480
                obtain rfl := Option.some.inj H
                have hcz49_0 : wr.cell? ⟨gb314, 0, none⟩ = some (.int .i64 x315000_1) := (blk_cell BK314.out 0).trans rfl
                have hcz49_1 : wr.cell? ⟨gb314, 1, none⟩ = some (.int .u64 x315001_1) := (blk_cell BK314.out 1).trans rfl
                have hcz49_2 : wr.cell? ⟨gb314, 2, none⟩ = some (.int .u64 x315002_1) := (blk_cell BK314.out 2).trans rfl
                have hcz49_3 : wr.cell? ⟨gb314, 3, none⟩ = some (.int .i64 x315003_1) := (blk_cell BK314.out 3).trans rfl
                have hcz49_4 : wr.cell? ⟨gb314, 4, none⟩ = some (.int .i64 x315004_1) := (blk_cell BK314.out 4).trans rfl
                have hfz49_0 := blk_frozen BK314.out 0
                have hfz49_1 := blk_frozen BK314.out 1
                have hfz49_2 := blk_frozen BK314.out 2
                have hfz49_3 := blk_frozen BK314.out 3
                have hfz49_4 := blk_frozen BK314.out 4
                try go_wp2_with (first | ((with_reducible refine gate_callee (f := 23) rfl ?_); refine goesL_ (some 74) rfl rfl Try.func23 (by kernel_rfl) rfl #[.agg #[.int .i64 x315000_1, .int .u64 x315001_1, .int .u64 x315002_1, .int .i64 x315003_1, .int .i64 x315004_1]] rfl (by (try simp only [List.map_toArray, List.map_cons, List.map_nil]); first | done | rfl | (simp only [List.length_drop, List.length_take]; rfl)) ?_; (with_reducible refine (plug_Wanted.calls x315000_1 x315001_1 x315002_1 x315003_1 x315004_1 t315 true _ A44.out).mono ?_); rintro e w50 ⟨rfl, hb⟩; refine ⟨_, rfl, ?_⟩; have n0_ := Aside0.mk (blk_below (g := gb314) (o := .cells #[.int .i64 x315000_1, .int .u64 x315001_1, .int .u64 x315002_1, .int .i64 x315003_1, .int .i64 x315004_1] 37 (0, 0)) (by (with_reducible repeat (first | refine blk_drewN ?_ _ | refine blk_drew ?_ | refine blk_alloc ?_ _)); exact BK314.out) hb); have n1_ := Aside0.mk (below_step (by repeat (first | (with_reducible first | exact HB.out | apply below_alloc | apply pw_below_drewN | apply below_drew1 | refine below_set ?_ GE314.out) | exact HB.out)) hb); clear BK314; clear HB; have BK314 := n0_; have HB := n1_; clear n0_ n1_; (try clear hb); (try clear hb2); (try clear hk); (try clear hi)))
                have n0_ := Aside0.mk (blk_drew BK314.out)
                have n1_ := Aside0.mk (below_drew1 HB.out)
                clear BK314
                clear HB
                have BK314 := n0_
                have HB := n1_
                clear n0_ n1_
                refine start_ (n := 19) (S := fun w' => w'.cell? ⟨gb314, 0, none⟩ = some (.int .i64 x315000_1) ∧ w'.cell? ⟨gb314, 1, none⟩ = some (.int .u64 x315001_1) ∧ w'.cell? ⟨gb314, 2, none⟩ = some (.int .u64 x315002_1) ∧ w'.cell? ⟨gb314, 3, none⟩ = some (.int .i64 x315003_1) ∧ w'.cell? ⟨gb314, 4, none⟩ = some (.int .i64 x315004_1)) (ds := []) #[false, false, false, false, false, false, false, false, false, false, false, false, false, false, false, false, false, false, false] (by kernel_rfl) rfl rfl ⟨(blk_cell BK314.out 0).trans rfl, (blk_cell BK314.out 1).trans rfl, (blk_cell BK314.out 2).trans rfl, (blk_cell BK314.out 3).trans rfl, (blk_cell BK314.out 4).trans rfl⟩ (fun hHeld => ?_); refine with_tabW soundservicelaw33_PlugFades.tab14 soundservicelaw33_PlugFades.bits14 (fun HT_ HW_ => ?_)
                generalize w50.drew = w51 at BK314 HB hHeld ⊢
                refine pure_ (i := 0) (N := some 77) (v := ?_) (a' := ?_) #[true, false, false, false, false, false, false, false, false, false, false, false, false, false, false, false, false, false, false] rfl rfl (any_of HT_.out (by kernel_rfl)) (fun _ _ _ h => h) (Or.inl ⟨by rfl, ?_⟩) ?_ ?_
                rotate_left
                · intro w'
                  go_simp
                  with_reducible rfl
                rotate_left
                · simp only [Act.put, List.setIfInBounds_toArray, List.set_cons_zero, List.set_cons_succ, i64_w, i32_w]
                  rfl
                refine take_ (i := 1) (N := some 78) (v := ?_) (a' := ?_) #[true, true, false, false, false, false, false, false, false, false, false, false, false, false, false, false, false, false, false] rfl rfl (take_ofW HT_.out HW_.out (by kernel_rfl)) (fun _ _ _ h => h) (Or.inl ⟨by rfl, ?_⟩) hHeld ?_ ?_
                rotate_left
                · rintro w' ⟨s0, s1, s2, s3, s4⟩
                  go_simp
                  with_reducible rfl
                rotate_left
                · simp only [Act.put, List.setIfInBounds_toArray, List.set_cons_zero, List.set_cons_succ, i64_w, i32_w]
                  rfl
                refine pure_ (i := 2) (N := some 79) (v := ?_) (a' := ?_) #[true, true, true, false, false, false, false, false, false, false, false, false, false, false, false, false, false, false, false] rfl rfl (any_of HT_.out (by kernel_rfl)) (fun _ _ _ h => h) (Or.inl ⟨by rfl, ?_⟩) ?_ ?_
                rotate_left
                · intro w'
                  go_simp
                  with_reducible rfl
                rotate_left
                · simp only [Act.put, List.setIfInBounds_toArray, List.set_cons_zero, List.set_cons_succ, i64_w, i32_w]
                  rfl
                refine pure_ (i := 3) (N := some 80) (v := ?_) (a' := ?_) #[true, true, true, true, false, false, false, false, false, false, false, false, false, false, false, false, false, false, false] rfl rfl (any_of HT_.out (by kernel_rfl)) (fun _ _ _ h => h) (Or.inl ⟨by rfl, ?_⟩) ?_ ?_
                rotate_left
                · intro w'
                  go_simp
                  with_reducible rfl
                rotate_left
                · simp only [Act.put, List.setIfInBounds_toArray, List.set_cons_zero, List.set_cons_succ, i64_w, i32_w]
                  rfl
                refine pure_ (i := 4) (N := some 81) (v := ?_) (a' := ?_) #[true, true, true, true, true, false, false, false, false, false, false, false, false, false, false, false, false, false, false] rfl rfl (any_of HT_.out (by kernel_rfl)) (fun _ _ _ h => h) (Or.inl ⟨by rfl, ?_⟩) ?_ ?_
                rotate_left
                · intro w'
                  go_simp
                  with_reducible rfl
                rotate_left
                · simp only [Act.put, List.setIfInBounds_toArray, List.set_cons_zero, List.set_cons_succ, i64_w, i32_w]
                  rfl
                refine pure_ (i := 5) (N := some 82) (v := ?_) (a' := ?_) #[true, true, true, true, true, true, false, false, false, false, false, false, false, false, false, false, false, false, false] rfl rfl (any_of HT_.out (by kernel_rfl)) (fun _ _ _ h => h) (Or.inl ⟨by rfl, ?_⟩) ?_ ?_
                rotate_left
                · intro w'
                  go_simp
                  with_reducible rfl
                rotate_left
                · simp only [Act.put, List.setIfInBounds_toArray, List.set_cons_zero, List.set_cons_succ, i64_w, i32_w]
                  rfl
                refine pure_ (i := 6) (N := some 83) (v := ?_) (a' := ?_) #[true, true, true, true, true, true, true, false, false, false, false, false, false, false, false, false, false, false, false] rfl rfl (any_of HT_.out (by kernel_rfl)) (fun _ _ _ h => h) (Or.inl ⟨by rfl, ?_⟩) ?_ ?_
                rotate_left
                · intro w'
                  go_simp
                  with_reducible rfl
                rotate_left
                · simp only [Act.put, List.setIfInBounds_toArray, List.set_cons_zero, List.set_cons_succ, i64_w, i32_w]
                  rfl
                refine pure_ (i := 7) (N := some 84) (v := ?_) (a' := ?_) #[true, true, true, true, true, true, true, true, false, false, false, false, false, false, false, false, false, false, false] rfl rfl (any_of HT_.out (by kernel_rfl)) (fun _ _ _ h => h) (Or.inl ⟨by rfl, ?_⟩) ?_ ?_
                rotate_left
                · intro w'
                  go_simp
                  with_reducible rfl
                rotate_left
                · simp only [Act.put, List.setIfInBounds_toArray, List.set_cons_zero, List.set_cons_succ, i64_w, i32_w]
                  rfl
                refine pure_ (i := 8) (N := some 85) (v := ?_) (a' := ?_) #[true, true, true, true, true, true, true, true, true, false, false, false, false, false, false, false, false, false, false] rfl rfl (any_of HT_.out (by kernel_rfl)) (fun _ _ _ h => h) (Or.inl ⟨by rfl, ?_⟩) ?_ ?_
                rotate_left
                · intro w'
                  go_simp
                  with_reducible rfl
                rotate_left
                · simp only [Act.put, List.setIfInBounds_toArray, List.set_cons_zero, List.set_cons_succ, i64_w, i32_w]
                  rfl
                refine pure_ (i := 9) (N := some 86) (v := ?_) (a' := ?_) #[true, true, true, true, true, true, true, true, true, true, false, false, false, false, false, false, false, false, false] rfl rfl (any_of HT_.out (by kernel_rfl)) (fun _ _ _ h => h) (Or.inl ⟨by rfl, ?_⟩) ?_ ?_
                rotate_left
                · intro w'
                  go_simp
                  with_reducible rfl
                rotate_left
                · simp only [Act.put, List.setIfInBounds_toArray, List.set_cons_zero, List.set_cons_succ, i64_w, i32_w]
                  rfl
                refine pure_ (i := 10) (N := some 87) (v := ?_) (a' := ?_) #[true, true, true, true, true, true, true, true, true, true, true, false, false, false, false, false, false, false, false] rfl rfl (any_of HT_.out (by kernel_rfl)) (fun _ _ _ h => h) (Or.inl ⟨by rfl, ?_⟩) ?_ ?_
                rotate_left
                · intro w'
                  go_simp
                  with_reducible rfl
                rotate_left
                · simp only [Act.put, List.setIfInBounds_toArray, List.set_cons_zero, List.set_cons_succ, i64_w, i32_w]
                  rfl
                refine pure_ (i := 11) (N := some 88) (v := ?_) (a' := ?_) #[true, true, true, true, true, true, true, true, true, true, true, true, false, false, false, false, false, false, false] rfl rfl (any_of HT_.out (by kernel_rfl)) (fun _ _ _ h => h) (Or.inl ⟨by rfl, ?_⟩) ?_ ?_
                rotate_left
                · intro w'
                  go_simp
                  with_reducible rfl
                rotate_left
                · simp only [Act.put, List.setIfInBounds_toArray, List.set_cons_zero, List.set_cons_succ, i64_w, i32_w]
                  rfl
                refine pure_ (i := 13) (N := some 90) (v := ?_) (a' := ?_) #[true, true, true, true, true, true, true, true, true, true, true, true, false, true, false, false, false, false, false] rfl rfl (any_of HT_.out (by kernel_rfl)) (fun _ _ _ h => h) (Or.inl ⟨by rfl, ?_⟩) ?_ ?_
                rotate_left
                · intro w'
                  go_simp
                  with_reducible rfl
                rotate_left
                · simp only [Act.put, List.setIfInBounds_toArray, List.set_cons_zero, List.set_cons_succ, i64_w, i32_w]
                  rfl
                refine take_ (i := 12) (N := some 89) (v := ?_) (a' := ?_) #[true, true, true, true, true, true, true, true, true, true, true, true, true, true, false, false, false, false, false] rfl rfl (take_ofW HT_.out HW_.out (by kernel_rfl)) (fun _ _ _ h => h) (Or.inl ⟨by rfl, ?_⟩) hHeld ?_ ?_
                rotate_left
                · rintro w' ⟨s0, s1, s2, s3, s4⟩
                  go_simp
                  with_reducible rfl
                rotate_left
                · simp only [Act.put, List.setIfInBounds_toArray, List.set_cons_zero, List.set_cons_succ, i64_w, i32_w]
                  rfl
                refine take_ (i := 15) (N := some 92) (v := ?_) (a' := ?_) #[true, true, true, true, true, true, true, true, true, true, true, true, true, true, false, true, false, false, false] rfl rfl (take_ofW HT_.out HW_.out (by kernel_rfl)) (fun _ _ _ h => h) (Or.inl ⟨by rfl, ?_⟩) hHeld ?_ ?_
                rotate_left
                · rintro w' ⟨s0, s1, s2, s3, s4⟩
                  go_simp
                  with_reducible rfl
                rotate_left
                · simp only [Act.put, List.setIfInBounds_toArray, List.set_cons_zero, List.set_cons_succ, i64_w, i32_w]
                  rfl
                refine one_ (i := 14) (N := some 91) #[true, true, true, true, true, true, true, true, true, true, true, true, true, true, true, true, false, false, false] rfl rfl (one_of HT_.out (by kernel_rfl)) (by decide) (fun K hK => ?_)
                refine goes_ Try.func21 (by kernel_rfl) rfl #[.agg #[.int .i64 x315000_1, .int .u64 x315001_1, .int .u64 x315002_1, .int .i64 x315003_1, .int .i64 x315004_1], .int .i64 (wrap64 (1 + t308))] (by rfl) rfl rfl (by (try simp only [List.map_toArray, List.map_cons, List.map_nil]); first | done | rfl | (simp only [List.length_drop, List.length_take]; rfl)) ?_
                with_reducible refine (plug_Advance.calls k1 x315000_1 x315001_1 x315002_1 x315003_1 x315004_1 (wrap64 (1 + t308)) t317 t318 t319 t320 t321 _ A48.out).mono ?_
                rintro e w52 ⟨rfl, hb⟩
                refine ⟨_, rfl, ?_⟩
                have n0_ := Aside0.mk (blk_below (g := gb314) (o := .cells #[.int .i64 x315000_1, .int .u64 x315001_1, .int .u64 x315002_1, .int .i64 x315003_1, .int .i64 x315004_1] 37 (0, 0)) (by (with_reducible repeat (first | refine blk_drewN ?_ _ | refine blk_drew ?_ | refine blk_alloc ?_ _)); exact BK314.out) hb)
                have n1_ := Aside0.mk (below_step (by repeat (first | (with_reducible first | exact HB.out | apply below_alloc | apply pw_below_drewN | apply below_drew1 | refine below_set ?_ GE314.out) | exact HB.out)) hb)
                clear BK314
                clear HB
                have BK314 := n0_
                have HB := n1_
                clear n0_ n1_
                (try clear hb)
                (try clear hb2)
                (try clear hk)
                (try clear hi)
                refine hK.out _ _ ⟨(blk_cell BK314.out 0).trans rfl, (blk_cell BK314.out 1).trans rfl, (blk_cell BK314.out 2).trans rfl, (blk_cell BK314.out 3).trans rfl, (blk_cell BK314.out 4).trans rfl⟩ (fun hHeld => ?_)
                clear hK K
                refine norm_ (a' := ?_) ?_ ?_
                rotate_left
                · show Act.put _ (some 91) _ = _
                  simp only [Act.put, List.setIfInBounds_toArray, List.set_cons_zero, List.set_cons_succ, i64_w, i32_w]
                  rfl
                refine pure_ (i := 16) (N := some 93) (v := ?_) (a' := ?_) #[true, true, true, true, true, true, true, true, true, true, true, true, true, true, true, true, true, false, false] rfl rfl (any_of HT_.out (by kernel_rfl)) (fun _ _ _ h => h) (Or.inl ⟨by rfl, ?_⟩) ?_ ?_
                rotate_left
                · intro w'
                  go_simp
                  with_reducible rfl
                rotate_left
                · simp only [Act.put, List.setIfInBounds_toArray, List.set_cons_zero, List.set_cons_succ, i64_w, i32_w]
                  rfl
                refine pure_ (i := 17) (N := some 94) (v := ?_) (a' := ?_) #[true, true, true, true, true, true, true, true, true, true, true, true, true, true, true, true, true, true, false] rfl rfl (any_of HT_.out (by kernel_rfl)) (fun _ _ _ h => h) (Or.inl ⟨by rfl, ?_⟩) ?_ ?_
                rotate_left
                · intro w'
                  go_simp
                  with_reducible rfl
                rotate_left
                · simp only [Act.put, List.setIfInBounds_toArray, List.set_cons_zero, List.set_cons_succ, i64_w, i32_w]
                  rfl
                refine pure_ (i := 18) (N := some 8) (v := ?_) (a' := ?_) #[true, true, true, true, true, true, true, true, true, true, true, true, true, true, true, true, true, true, true] rfl rfl (any_of HT_.out (by kernel_rfl)) (fun _ _ _ h => h) (Or.inl ⟨by rfl, ?_⟩) ?_ ?_
                rotate_left
                · intro w'
                  go_simp
                  with_reducible rfl
                rotate_left
                · simp only [Act.put, List.setIfInBounds_toArray, List.set_cons_zero, List.set_cons_succ, i64_w, i32_w]
                  rfl
                refine done_ (done_of HT_.out (by kernel_rfl)) ?_
                try go_wp2
                go_ret
                exact ⟨by first | rfl | (simp [errW_none, errW_some] <;> rfl) | (simp [*, errW_none, errW_some] <;> rfl), by repeat (first | (with_reducible first | exact HB.out | apply below_alloc | apply pw_below_drewN | apply below_drew1 | refine below_set ?_ GE314.out) | exact HB.out)⟩
              · replace c47 := Bool.eq_false_iff.mpr c47
                subst c47
                have H1 : (some false) = some r := by rw [if_neg (show ¬ (false = true) by decide)] at H; exact H
                clear H
                have H := H1
                clear H1
                obtain rfl := Option.some.inj H
                have hcz53_0 : wr.cell? ⟨gb314, 0, none⟩ = some (.int .i64 x315000_1) := (blk_cell BK314.out 0).trans rfl
                have hcz53_1 : wr.cell? ⟨gb314, 1, none⟩ = some (.int .u64 x315001_1) := (blk_cell BK314.out 1).trans rfl
                have hcz53_2 : wr.cell? ⟨gb314, 2, none⟩ = some (.int .u64 x315002_1) := (blk_cell BK314.out 2).trans rfl
                have hcz53_3 : wr.cell? ⟨gb314, 3, none⟩ = some (.int .i64 x315003_1) := (blk_cell BK314.out 3).trans rfl
                have hcz53_4 : wr.cell? ⟨gb314, 4, none⟩ = some (.int .i64 x315004_1) := (blk_cell BK314.out 4).trans rfl
                have hfz53_0 := blk_frozen BK314.out 0
                have hfz53_1 := blk_frozen BK314.out 1
                have hfz53_2 := blk_frozen BK314.out 2
                have hfz53_3 := blk_frozen BK314.out 3
                have hfz53_4 := blk_frozen BK314.out 4
                try go_wp2_with (first | ((with_reducible refine gate_callee (f := 23) rfl ?_); refine goesL_ (some 74) rfl rfl Try.func23 (by kernel_rfl) rfl #[.agg #[.int .i64 x315000_1, .int .u64 x315001_1, .int .u64 x315002_1, .int .i64 x315003_1, .int .i64 x315004_1]] rfl (by (try simp only [List.map_toArray, List.map_cons, List.map_nil]); first | done | rfl | (simp only [List.length_drop, List.length_take]; rfl)) ?_; (with_reducible refine (plug_Wanted.calls x315000_1 x315001_1 x315002_1 x315003_1 x315004_1 t315 false _ A44.out).mono ?_); rintro e w54 ⟨rfl, hb⟩; refine ⟨_, rfl, ?_⟩; have n0_ := Aside0.mk (blk_below (g := gb314) (o := .cells #[.int .i64 x315000_1, .int .u64 x315001_1, .int .u64 x315002_1, .int .i64 x315003_1, .int .i64 x315004_1] 37 (0, 0)) (by (with_reducible repeat (first | refine blk_drewN ?_ _ | refine blk_drew ?_ | refine blk_alloc ?_ _)); exact BK314.out) hb); have n1_ := Aside0.mk (below_step (by repeat (first | (with_reducible first | exact HB.out | apply below_alloc | apply pw_below_drewN | apply below_drew1 | refine below_set ?_ GE314.out) | exact HB.out)) hb); clear BK314; clear HB; have BK314 := n0_; have HB := n1_; clear n0_ n1_; (try clear hb); (try clear hb2); (try clear hk); (try clear hi)))
                have n0_ := Aside0.mk (blk_drew BK314.out)
                have n1_ := Aside0.mk (below_drew1 HB.out)
                clear BK314
                clear HB
                have BK314 := n0_
                have HB := n1_
                clear n0_ n1_
                refine start_ (n := 19) (S := fun w' => w'.cell? ⟨gb314, 0, none⟩ = some (.int .i64 x315000_1) ∧ w'.cell? ⟨gb314, 1, none⟩ = some (.int .u64 x315001_1) ∧ w'.cell? ⟨gb314, 2, none⟩ = some (.int .u64 x315002_1) ∧ w'.cell? ⟨gb314, 3, none⟩ = some (.int .i64 x315003_1) ∧ w'.cell? ⟨gb314, 4, none⟩ = some (.int .i64 x315004_1)) (ds := []) #[false, false, false, false, false, false, false, false, false, false, false, false, false, false, false, false, false, false, false] (by kernel_rfl) rfl rfl ⟨(blk_cell BK314.out 0).trans rfl, (blk_cell BK314.out 1).trans rfl, (blk_cell BK314.out 2).trans rfl, (blk_cell BK314.out 3).trans rfl, (blk_cell BK314.out 4).trans rfl⟩ (fun hHeld => ?_); refine with_tabW soundservicelaw33_PlugFades.tab14 soundservicelaw33_PlugFades.bits14 (fun HT_ HW_ => ?_)
                generalize w54.drew = w55 at BK314 HB hHeld ⊢
                refine pure_ (i := 0) (N := some 77) (v := ?_) (a' := ?_) #[true, false, false, false, false, false, false, false, false, false, false, false, false, false, false, false, false, false, false] rfl rfl (any_of HT_.out (by kernel_rfl)) (fun _ _ _ h => h) (Or.inl ⟨by rfl, ?_⟩) ?_ ?_
                rotate_left
                · intro w'
                  go_simp
                  with_reducible rfl
                rotate_left
                · simp only [Act.put, List.setIfInBounds_toArray, List.set_cons_zero, List.set_cons_succ, i64_w, i32_w]
                  rfl
                refine take_ (i := 1) (N := some 78) (v := ?_) (a' := ?_) #[true, true, false, false, false, false, false, false, false, false, false, false, false, false, false, false, false, false, false] rfl rfl (take_ofW HT_.out HW_.out (by kernel_rfl)) (fun _ _ _ h => h) (Or.inl ⟨by rfl, ?_⟩) hHeld ?_ ?_
                rotate_left
                · rintro w' ⟨s0, s1, s2, s3, s4⟩
                  go_simp
                  with_reducible rfl
                rotate_left
                · simp only [Act.put, List.setIfInBounds_toArray, List.set_cons_zero, List.set_cons_succ, i64_w, i32_w]
                  rfl
                refine pure_ (i := 2) (N := some 79) (v := ?_) (a' := ?_) #[true, true, true, false, false, false, false, false, false, false, false, false, false, false, false, false, false, false, false] rfl rfl (any_of HT_.out (by kernel_rfl)) (fun _ _ _ h => h) (Or.inl ⟨by rfl, ?_⟩) ?_ ?_
                rotate_left
                · intro w'
                  go_simp
                  with_reducible rfl
                rotate_left
                · simp only [Act.put, List.setIfInBounds_toArray, List.set_cons_zero, List.set_cons_succ, i64_w, i32_w]
                  rfl
                refine pure_ (i := 3) (N := some 80) (v := ?_) (a' := ?_) #[true, true, true, true, false, false, false, false, false, false, false, false, false, false, false, false, false, false, false] rfl rfl (any_of HT_.out (by kernel_rfl)) (fun _ _ _ h => h) (Or.inl ⟨by rfl, ?_⟩) ?_ ?_
                rotate_left
                · intro w'
                  go_simp
                  with_reducible rfl
                rotate_left
                · simp only [Act.put, List.setIfInBounds_toArray, List.set_cons_zero, List.set_cons_succ, i64_w, i32_w]
                  rfl
                refine pure_ (i := 4) (N := some 81) (v := ?_) (a' := ?_) #[true, true, true, true, true, false, false, false, false, false, false, false, false, false, false, false, false, false, false] rfl rfl (any_of HT_.out (by kernel_rfl)) (fun _ _ _ h => h) (Or.inl ⟨by rfl, ?_⟩) ?_ ?_
                rotate_left
                · intro w'
                  go_simp
                  with_reducible rfl
                rotate_left
                · simp only [Act.put, List.setIfInBounds_toArray, List.set_cons_zero, List.set_cons_succ, i64_w, i32_w]
                  rfl
                refine pure_ (i := 5) (N := some 82) (v := ?_) (a' := ?_) #[true, true, true, true, true, true, false, false, false, false, false, false, false, false, false, false, false, false, false] rfl rfl (any_of HT_.out (by kernel_rfl)) (fun _ _ _ h => h) (Or.inl ⟨by rfl, ?_⟩) ?_ ?_
                rotate_left
                · intro w'
                  go_simp
                  with_reducible rfl
                rotate_left
                · simp only [Act.put, List.setIfInBounds_toArray, List.set_cons_zero, List.set_cons_succ, i64_w, i32_w]
                  rfl
                refine pure_ (i := 6) (N := some 83) (v := ?_) (a' := ?_) #[true, true, true, true, true, true, true, false, false, false, false, false, false, false, false, false, false, false, false] rfl rfl (any_of HT_.out (by kernel_rfl)) (fun _ _ _ h => h) (Or.inl ⟨by rfl, ?_⟩) ?_ ?_
                rotate_left
                · intro w'
                  go_simp
                  with_reducible rfl
                rotate_left
                · simp only [Act.put, List.setIfInBounds_toArray, List.set_cons_zero, List.set_cons_succ, i64_w, i32_w]
                  rfl
                refine pure_ (i := 7) (N := some 84) (v := ?_) (a' := ?_) #[true, true, true, true, true, true, true, true, false, false, false, false, false, false, false, false, false, false, false] rfl rfl (any_of HT_.out (by kernel_rfl)) (fun _ _ _ h => h) (Or.inl ⟨by rfl, ?_⟩) ?_ ?_
                rotate_left
                · intro w'
                  go_simp
                  with_reducible rfl
                rotate_left
                · simp only [Act.put, List.setIfInBounds_toArray, List.set_cons_zero, List.set_cons_succ, i64_w, i32_w]
                  rfl
                refine pure_ (i := 8) (N := some 85) (v := ?_) (a' := ?_) #[true, true, true, true, true, true, true, true, true, false, false, false, false, false, false, false, false, false, false] rfl rfl (any_of HT_.out (by kernel_rfl)) (fun _ _ _ h => h) (Or.inl ⟨by rfl, ?_⟩) ?_ ?_
                rotate_left
                · intro w'
                  go_simp
                  with_reducible rfl
                rotate_left
                · simp only [Act.put, List.setIfInBounds_toArray, List.set_cons_zero, List.set_cons_succ, i64_w, i32_w]
                  rfl
                refine pure_ (i := 9) (N := some 86) (v := ?_) (a' := ?_) #[true, true, true, true, true, true, true, true, true, true, false, false, false, false, false, false, false, false, false] rfl rfl (any_of HT_.out (by kernel_rfl)) (fun _ _ _ h => h) (Or.inl ⟨by rfl, ?_⟩) ?_ ?_
                rotate_left
                · intro w'
                  go_simp
                  with_reducible rfl
                rotate_left
                · simp only [Act.put, List.setIfInBounds_toArray, List.set_cons_zero, List.set_cons_succ, i64_w, i32_w]
                  rfl
                refine pure_ (i := 10) (N := some 87) (v := ?_) (a' := ?_) #[true, true, true, true, true, true, true, true, true, true, true, false, false, false, false, false, false, false, false] rfl rfl (any_of HT_.out (by kernel_rfl)) (fun _ _ _ h => h) (Or.inl ⟨by rfl, ?_⟩) ?_ ?_
                rotate_left
                · intro w'
                  go_simp
                  with_reducible rfl
                rotate_left
                · simp only [Act.put, List.setIfInBounds_toArray, List.set_cons_zero, List.set_cons_succ, i64_w, i32_w]
                  rfl
                refine pure_ (i := 11) (N := some 88) (v := ?_) (a' := ?_) #[true, true, true, true, true, true, true, true, true, true, true, true, false, false, false, false, false, false, false] rfl rfl (any_of HT_.out (by kernel_rfl)) (fun _ _ _ h => h) (Or.inl ⟨by rfl, ?_⟩) ?_ ?_
                rotate_left
                · intro w'
                  go_simp
                  with_reducible rfl
                rotate_left
                · simp only [Act.put, List.setIfInBounds_toArray, List.set_cons_zero, List.set_cons_succ, i64_w, i32_w]
                  rfl
                refine pure_ (i := 12) (N := some 89) (v := undef) (a' := ?_) #[true, true, true, true, true, true, true, true, true, true, true, true, true, false, false, false, false, false, false] rfl rfl (any_of HT_.out (by kernel_rfl)) (fun _ _ _ h => h) (Or.inr ⟨by rfl, rfl⟩) ?_ ?_
                rotate_left
                · simp only [Act.put, List.setIfInBounds_toArray, List.set_cons_zero, List.set_cons_succ, i64_w, i32_w]
                  rfl
                refine pure_ (i := 13) (N := some 90) (v := undef) (a' := ?_) #[true, true, true, true, true, true, true, true, true, true, true, true, true, true, false, false, false, false, false] rfl rfl (any_of HT_.out (by kernel_rfl)) (fun _ _ _ h => h) (Or.inr ⟨by rfl, rfl⟩) ?_ ?_
                rotate_left
                · simp only [Act.put, List.setIfInBounds_toArray, List.set_cons_zero, List.set_cons_succ, i64_w, i32_w]
                  rfl
                refine pure_ (i := 14) (N := some 91) (v := undef) (a' := ?_) #[true, true, true, true, true, true, true, true, true, true, true, true, true, true, true, false, false, false, false] rfl rfl (any_of HT_.out (by kernel_rfl)) (fun _ _ _ h => h) (Or.inr ⟨by rfl, rfl⟩) ?_ ?_
                rotate_left
                · simp only [Act.put, List.setIfInBounds_toArray, List.set_cons_zero, List.set_cons_succ, i64_w, i32_w]
                  rfl
                refine pure_ (i := 15) (N := some 92) (v := undef) (a' := ?_) #[true, true, true, true, true, true, true, true, true, true, true, true, true, true, true, true, false, false, false] rfl rfl (any_of HT_.out (by kernel_rfl)) (fun _ _ _ h => h) (Or.inr ⟨by rfl, rfl⟩) ?_ ?_
                rotate_left
                · simp only [Act.put, List.setIfInBounds_toArray, List.set_cons_zero, List.set_cons_succ, i64_w, i32_w]
                  rfl
                refine pure_ (i := 16) (N := some 93) (v := undef) (a' := ?_) #[true, true, true, true, true, true, true, true, true, true, true, true, true, true, true, true, true, false, false] rfl rfl (any_of HT_.out (by kernel_rfl)) (fun _ _ _ h => h) (Or.inr ⟨by rfl, rfl⟩) ?_ ?_
                rotate_left
                · simp only [Act.put, List.setIfInBounds_toArray, List.set_cons_zero, List.set_cons_succ, i64_w, i32_w]
                  rfl
                refine pure_ (i := 17) (N := some 94) (v := ?_) (a' := ?_) #[true, true, true, true, true, true, true, true, true, true, true, true, true, true, true, true, true, true, false] rfl rfl (any_of HT_.out (by kernel_rfl)) (fun _ _ _ h => h) (Or.inl ⟨by rfl, ?_⟩) ?_ ?_
                rotate_left
                · intro w'
                  go_simp
                  with_reducible rfl
                rotate_left
                · simp only [Act.put, List.setIfInBounds_toArray, List.set_cons_zero, List.set_cons_succ, i64_w, i32_w]
                  rfl
                refine pure_ (i := 18) (N := some 8) (v := ?_) (a' := ?_) #[true, true, true, true, true, true, true, true, true, true, true, true, true, true, true, true, true, true, true] rfl rfl (any_of HT_.out (by kernel_rfl)) (fun _ _ _ h => h) (Or.inl ⟨by rfl, ?_⟩) ?_ ?_
                rotate_left
                · intro w'
                  go_simp
                  with_reducible rfl
                rotate_left
                · simp only [Act.put, List.setIfInBounds_toArray, List.set_cons_zero, List.set_cons_succ, i64_w, i32_w]
                  rfl
                refine done_ (done_of HT_.out (by kernel_rfl)) ?_
                try go_wp2
                go_ret
                exact ⟨by first | rfl | (simp [errW_none, errW_some] <;> rfl) | (simp [*, errW_none, errW_some] <;> rfl), by repeat (first | (with_reducible first | exact HB.out | apply below_alloc | apply pw_below_drewN | apply below_drew1 | refine below_set ?_ GE314.out) | exact HB.out)⟩
            · rw [if_neg c46] at H
              have c46b0 : (t315 == (IntKind.u64.wrap (11 + (Int.tmod a2 9)))) = false := beq_eq_false_iff_ne.mpr c46
              have c46b1 : (t315 != (IntKind.u64.wrap (11 + (Int.tmod a2 9)))) = true := bne_iff_ne.mpr c46
              obtain rfl := Option.some.inj H
              have hcz56_0 : wr.cell? ⟨gb314, 0, none⟩ = some (.int .i64 x315000_1) := (blk_cell BK314.out 0).trans rfl
              have hcz56_1 : wr.cell? ⟨gb314, 1, none⟩ = some (.int .u64 x315001_1) := (blk_cell BK314.out 1).trans rfl
              have hcz56_2 : wr.cell? ⟨gb314, 2, none⟩ = some (.int .u64 x315002_1) := (blk_cell BK314.out 2).trans rfl
              have hcz56_3 : wr.cell? ⟨gb314, 3, none⟩ = some (.int .i64 x315003_1) := (blk_cell BK314.out 3).trans rfl
              have hcz56_4 : wr.cell? ⟨gb314, 4, none⟩ = some (.int .i64 x315004_1) := (blk_cell BK314.out 4).trans rfl
              have hfz56_0 := blk_frozen BK314.out 0
              have hfz56_1 := blk_frozen BK314.out 1
              have hfz56_2 := blk_frozen BK314.out 2
              have hfz56_3 := blk_frozen BK314.out 3
              have hfz56_4 := blk_frozen BK314.out 4
              try go_wp2_with (first | ((with_reducible refine gate_callee (f := 23) rfl ?_); refine goesL_ (some 74) rfl rfl Try.func23 (by kernel_rfl) rfl #[.agg #[.int .i64 x315000_1, .int .u64 x315001_1, .int .u64 x315002_1, .int .i64 x315003_1, .int .i64 x315004_1]] rfl (by (try simp only [List.map_toArray, List.map_cons, List.map_nil]); first | done | rfl | (simp only [List.length_drop, List.length_take]; rfl)) ?_; (with_reducible refine (plug_Wanted.calls x315000_1 x315001_1 x315002_1 x315003_1 x315004_1 t315 t316 _ A44.out).mono ?_); rintro e w57 ⟨rfl, hb⟩; refine ⟨_, rfl, ?_⟩; have n0_ := Aside0.mk (blk_below (g := gb314) (o := .cells #[.int .i64 x315000_1, .int .u64 x315001_1, .int .u64 x315002_1, .int .i64 x315003_1, .int .i64 x315004_1] 37 (0, 0)) (by (with_reducible repeat (first | refine blk_drewN ?_ _ | refine blk_drew ?_ | refine blk_alloc ?_ _)); exact BK314.out) hb); have n1_ := Aside0.mk (below_step (by repeat (first | (with_reducible first | exact HB.out | apply below_alloc | apply pw_below_drewN | apply below_drew1 | refine below_set ?_ GE314.out) | exact HB.out)) hb); clear BK314; clear HB; have BK314 := n0_; have HB := n1_; clear n0_ n1_; (try clear hb); (try clear hb2); (try clear hk); (try clear hi)))
              have n0_ := Aside0.mk (blk_drew BK314.out)
              have n1_ := Aside0.mk (below_drew1 HB.out)
              clear BK314
              clear HB
              have BK314 := n0_
              have HB := n1_
              clear n0_ n1_
              refine start_ (n := 19) (S := fun w' => w'.cell? ⟨gb314, 0, none⟩ = some (.int .i64 x315000_1) ∧ w'.cell? ⟨gb314, 1, none⟩ = some (.int .u64 x315001_1) ∧ w'.cell? ⟨gb314, 2, none⟩ = some (.int .u64 x315002_1) ∧ w'.cell? ⟨gb314, 3, none⟩ = some (.int .i64 x315003_1) ∧ w'.cell? ⟨gb314, 4, none⟩ = some (.int .i64 x315004_1)) (ds := []) #[false, false, false, false, false, false, false, false, false, false, false, false, false, false, false, false, false, false, false] (by kernel_rfl) rfl rfl ⟨(blk_cell BK314.out 0).trans rfl, (blk_cell BK314.out 1).trans rfl, (blk_cell BK314.out 2).trans rfl, (blk_cell BK314.out 3).trans rfl, (blk_cell BK314.out 4).trans rfl⟩ (fun hHeld => ?_); refine with_tabW soundservicelaw33_PlugFades.tab14 soundservicelaw33_PlugFades.bits14 (fun HT_ HW_ => ?_)
              generalize w57.drew = w58 at BK314 HB hHeld ⊢
              refine pure_ (i := 0) (N := some 77) (v := ?_) (a' := ?_) #[true, false, false, false, false, false, false, false, false, false, false, false, false, false, false, false, false, false, false] rfl rfl (any_of HT_.out (by kernel_rfl)) (fun _ _ _ h => h) (Or.inl ⟨by rfl, ?_⟩) ?_ ?_
              rotate_left
              · intro w'
                go_simp
                with_reducible rfl
              rotate_left
              · simp only [Act.put, List.setIfInBounds_toArray, List.set_cons_zero, List.set_cons_succ, i64_w, i32_w]
                rfl
              refine take_ (i := 1) (N := some 78) (v := ?_) (a' := ?_) #[true, true, false, false, false, false, false, false, false, false, false, false, false, false, false, false, false, false, false] rfl rfl (take_ofW HT_.out HW_.out (by kernel_rfl)) (fun _ _ _ h => h) (Or.inl ⟨by rfl, ?_⟩) hHeld ?_ ?_
              rotate_left
              · rintro w' ⟨s0, s1, s2, s3, s4⟩
                go_simp
                with_reducible rfl
              rotate_left
              · simp only [Act.put, List.setIfInBounds_toArray, List.set_cons_zero, List.set_cons_succ, i64_w, i32_w]
                rfl
              refine pure_ (i := 2) (N := some 79) (v := ?_) (a' := ?_) #[true, true, true, false, false, false, false, false, false, false, false, false, false, false, false, false, false, false, false] rfl rfl (any_of HT_.out (by kernel_rfl)) (fun _ _ _ h => h) (Or.inl ⟨by rfl, ?_⟩) ?_ ?_
              rotate_left
              · intro w'
                go_simp
                with_reducible rfl
              rotate_left
              · simp only [Act.put, List.setIfInBounds_toArray, List.set_cons_zero, List.set_cons_succ, i64_w, i32_w]
                rfl
              refine pure_ (i := 3) (N := some 80) (v := ?_) (a' := ?_) #[true, true, true, true, false, false, false, false, false, false, false, false, false, false, false, false, false, false, false] rfl rfl (any_of HT_.out (by kernel_rfl)) (fun _ _ _ h => h) (Or.inl ⟨by rfl, ?_⟩) ?_ ?_
              rotate_left
              · intro w'
                go_simp
                with_reducible rfl
              rotate_left
              · simp only [Act.put, List.setIfInBounds_toArray, List.set_cons_zero, List.set_cons_succ, i64_w, i32_w]
                rfl
              refine pure_ (i := 4) (N := some 81) (v := ?_) (a' := ?_) #[true, true, true, true, true, false, false, false, false, false, false, false, false, false, false, false, false, false, false] rfl rfl (any_of HT_.out (by kernel_rfl)) (fun _ _ _ h => h) (Or.inl ⟨by rfl, ?_⟩) ?_ ?_
              rotate_left
              · intro w'
                go_simp
                with_reducible rfl
              rotate_left
              · simp only [Act.put, List.setIfInBounds_toArray, List.set_cons_zero, List.set_cons_succ, i64_w, i32_w]
                rfl
              refine pure_ (i := 5) (N := some 82) (v := ?_) (a' := ?_) #[true, true, true, true, true, true, false, false, false, false, false, false, false, false, false, false, false, false, false] rfl rfl (any_of HT_.out (by kernel_rfl)) (fun _ _ _ h => h) (Or.inl ⟨by rfl, ?_⟩) ?_ ?_
              rotate_left
              · intro w'
                go_simp
                with_reducible rfl
              rotate_left
              · simp only [Act.put, List.setIfInBounds_toArray, List.set_cons_zero, List.set_cons_succ, i64_w, i32_w]
                rfl
              refine pure_ (i := 6) (N := some 83) (v := ?_) (a' := ?_) #[true, true, true, true, true, true, true, false, false, false, false, false, false, false, false, false, false, false, false] rfl rfl (any_of HT_.out (by kernel_rfl)) (fun _ _ _ h => h) (Or.inl ⟨by rfl, ?_⟩) ?_ ?_
              rotate_left
              · intro w'
                go_simp
                with_reducible rfl
              rotate_left
              · simp only [Act.put, List.setIfInBounds_toArray, List.set_cons_zero, List.set_cons_succ, i64_w, i32_w]
                rfl
              refine pure_ (i := 7) (N := some 84) (v := ?_) (a' := ?_) #[true, true, true, true, true, true, true, true, false, false, false, false, false, false, false, false, false, false, false] rfl rfl (any_of HT_.out (by kernel_rfl)) (fun _ _ _ h => h) (Or.inl ⟨by rfl, ?_⟩) ?_ ?_
              rotate_left
              · intro w'
                go_simp
                with_reducible rfl
              rotate_left
              · simp only [Act.put, List.setIfInBounds_toArray, List.set_cons_zero, List.set_cons_succ, i64_w, i32_w]
                rfl
              refine pure_ (i := 8) (N := some 85) (v := ?_) (a' := ?_) #[true, true, true, true, true, true, true, true, true, false, false, false, false, false, false, false, false, false, false] rfl rfl (any_of HT_.out (by kernel_rfl)) (fun _ _ _ h => h) (Or.inl ⟨by rfl, ?_⟩) ?_ ?_
              rotate_left
              · intro w'
                go_simp
                with_reducible rfl
              rotate_left
              · simp only [Act.put, List.setIfInBounds_toArray, List.set_cons_zero, List.set_cons_succ, i64_w, i32_w]
                rfl
              refine pure_ (i := 9) (N := some 86) (v := undef) (a' := ?_) #[true, true, true, true, true, true, true, true, true, true, false, false, false, false, false, false, false, false, false] rfl rfl (any_of HT_.out (by kernel_rfl)) (fun _ _ _ h => h) (Or.inr ⟨by rfl, rfl⟩) ?_ ?_
              rotate_left
              · simp only [Act.put, List.setIfInBounds_toArray, List.set_cons_zero, List.set_cons_succ, i64_w, i32_w]
                rfl
              refine pure_ (i := 10) (N := some 87) (v := ?_) (a' := ?_) #[true, true, true, true, true, true, true, true, true, true, true, false, false, false, false, false, false, false, false] rfl rfl (any_of HT_.out (by kernel_rfl)) (fun _ _ _ h => h) (Or.inl ⟨by rfl, ?_⟩) ?_ ?_
              rotate_left
              · intro w'
                go_simp
                with_reducible rfl
              rotate_left
              · simp only [Act.put, List.setIfInBounds_toArray, List.set_cons_zero, List.set_cons_succ, i64_w, i32_w]
                rfl
              refine pure_ (i := 11) (N := some 88) (v := ?_) (a' := ?_) #[true, true, true, true, true, true, true, true, true, true, true, true, false, false, false, false, false, false, false] rfl rfl (any_of HT_.out (by kernel_rfl)) (fun _ _ _ h => h) (Or.inl ⟨by rfl, ?_⟩) ?_ ?_
              rotate_left
              · intro w'
                go_simp
                with_reducible rfl
              rotate_left
              · simp only [Act.put, List.setIfInBounds_toArray, List.set_cons_zero, List.set_cons_succ, i64_w, i32_w]
                rfl
              refine pure_ (i := 12) (N := some 89) (v := undef) (a' := ?_) #[true, true, true, true, true, true, true, true, true, true, true, true, true, false, false, false, false, false, false] rfl rfl (any_of HT_.out (by kernel_rfl)) (fun _ _ _ h => h) (Or.inr ⟨by rfl, rfl⟩) ?_ ?_
              rotate_left
              · simp only [Act.put, List.setIfInBounds_toArray, List.set_cons_zero, List.set_cons_succ, i64_w, i32_w]
                rfl
              refine pure_ (i := 13) (N := some 90) (v := undef) (a' := ?_) #[true, true, true, true, true, true, true, true, true, true, true, true, true, true, false, false, false, false, false] rfl rfl (any_of HT_.out (by kernel_rfl)) (fun _ _ _ h => h) (Or.inr ⟨by rfl, rfl⟩) ?_ ?_
              rotate_left
              · simp only [Act.put, List.setIfInBounds_toArray, List.set_cons_zero, List.set_cons_succ, i64_w, i32_w]
                rfl
              refine pure_ (i := 14) (N := some 91) (v := undef) (a' := ?_) #[true, true, true, true, true, true, true, true, true, true, true, true, true, true, true, false, false, false, false] rfl rfl (any_of HT_.out (by kernel_rfl)) (fun _ _ _ h => h) (Or.inr ⟨by rfl, rfl⟩) ?_ ?_
              rotate_left
              · simp only [Act.put, List.setIfInBounds_toArray, List.set_cons_zero, List.set_cons_succ, i64_w, i32_w]
                rfl
              refine pure_ (i := 15) (N := some 92) (v := undef) (a' := ?_) #[true, true, true, true, true, true, true, true, true, true, true, true, true, true, true, true, false, false, false] rfl rfl (any_of HT_.out (by kernel_rfl)) (fun _ _ _ h => h) (Or.inr ⟨by rfl, rfl⟩) ?_ ?_
              rotate_left
              · simp only [Act.put, List.setIfInBounds_toArray, List.set_cons_zero, List.set_cons_succ, i64_w, i32_w]
                rfl
              refine pure_ (i := 16) (N := some 93) (v := undef) (a' := ?_) #[true, true, true, true, true, true, true, true, true, true, true, true, true, true, true, true, true, false, false] rfl rfl (any_of HT_.out (by kernel_rfl)) (fun _ _ _ h => h) (Or.inr ⟨by rfl, rfl⟩) ?_ ?_
              rotate_left
              · simp only [Act.put, List.setIfInBounds_toArray, List.set_cons_zero, List.set_cons_succ, i64_w, i32_w]
                rfl
              refine pure_ (i := 17) (N := some 94) (v := ?_) (a' := ?_) #[true, true, true, true, true, true, true, true, true, true, true, true, true, true, true, true, true, true, false] rfl rfl (any_of HT_.out (by kernel_rfl)) (fun _ _ _ h => h) (Or.inl ⟨by rfl, ?_⟩) ?_ ?_
              rotate_left
              · intro w'
                go_simp
                with_reducible rfl
              rotate_left
              · simp only [Act.put, List.setIfInBounds_toArray, List.set_cons_zero, List.set_cons_succ, i64_w, i32_w]
                rfl
              refine pure_ (i := 18) (N := some 8) (v := ?_) (a' := ?_) #[true, true, true, true, true, true, true, true, true, true, true, true, true, true, true, true, true, true, true] rfl rfl (any_of HT_.out (by kernel_rfl)) (fun _ _ _ h => h) (Or.inl ⟨by rfl, ?_⟩) ?_ ?_
              rotate_left
              · intro w'
                go_simp
                with_reducible rfl
              rotate_left
              · simp only [Act.put, List.setIfInBounds_toArray, List.set_cons_zero, List.set_cons_succ, i64_w, i32_w]
                rfl
              refine done_ (done_of HT_.out (by kernel_rfl)) ?_
              try go_wp2
              go_ret
              exact ⟨by first | rfl | (simp [errW_none, errW_some] <;> rfl) | (simp [*, errW_none, errW_some] <;> rfl), by repeat (first | (with_reducible first | exact HB.out | apply below_alloc | apply pw_below_drewN | apply below_drew1 | refine below_set ?_ GE314.out) | exact HB.out)⟩
          · rw [if_neg c45] at H
            have c45b0 : (x315003_1 == 3) = false := beq_eq_false_iff_ne.mpr c45
            have c45b1 : (x315003_1 != 3) = true := bne_iff_ne.mpr c45
            obtain rfl := Option.some.inj H
            have hcz59_0 : wr.cell? ⟨gb314, 0, none⟩ = some (.int .i64 x315000_1) := (blk_cell BK314.out 0).trans rfl
            have hcz59_1 : wr.cell? ⟨gb314, 1, none⟩ = some (.int .u64 x315001_1) := (blk_cell BK314.out 1).trans rfl
            have hcz59_2 : wr.cell? ⟨gb314, 2, none⟩ = some (.int .u64 x315002_1) := (blk_cell BK314.out 2).trans rfl
            have hcz59_3 : wr.cell? ⟨gb314, 3, none⟩ = some (.int .i64 x315003_1) := (blk_cell BK314.out 3).trans rfl
            have hcz59_4 : wr.cell? ⟨gb314, 4, none⟩ = some (.int .i64 x315004_1) := (blk_cell BK314.out 4).trans rfl
            have hfz59_0 := blk_frozen BK314.out 0
            have hfz59_1 := blk_frozen BK314.out 1
            have hfz59_2 := blk_frozen BK314.out 2
            have hfz59_3 := blk_frozen BK314.out 3
            have hfz59_4 := blk_frozen BK314.out 4
            try go_wp2_with (first | ((with_reducible refine gate_callee (f := 23) rfl ?_); refine goesL_ (some 74) rfl rfl Try.func23 (by kernel_rfl) rfl #[.agg #[.int .i64 x315000_1, .int .u64 x315001_1, .int .u64 x315002_1, .int .i64 x315003_1, .int .i64 x315004_1]] rfl (by (try simp only [List.map_toArray, List.map_cons, List.map_nil]); first | done | rfl | (simp only [List.length_drop, List.length_take]; rfl)) ?_; (with_reducible refine (plug_Wanted.calls x315000_1 x315001_1 x315002_1 x315003_1 x315004_1 t315 t316 _ A44.out).mono ?_); rintro e w60 ⟨rfl, hb⟩; refine ⟨_, rfl, ?_⟩; have n0_ := Aside0.mk (blk_below (g := gb314) (o := .cells #[.int .i64 x315000_1, .int .u64 x315001_1, .int .u64 x315002_1, .int .i64 x315003_1, .int .i64 x315004_1] 37 (0, 0)) (by (with_reducible repeat (first | refine blk_drewN ?_ _ | refine blk_drew ?_ | refine blk_alloc ?_ _)); exact BK314.out) hb); have n1_ := Aside0.mk (below_step (by repeat (first | (with_reducible first | exact HB.out | apply below_alloc | apply pw_below_drewN | apply below_drew1 | refine below_set ?_ GE314.out) | exact HB.out)) hb); clear BK314; clear HB; have BK314 := n0_; have HB := n1_; clear n0_ n1_; (try clear hb); (try clear hb2); (try clear hk); (try clear hi)))
            have n0_ := Aside0.mk (blk_drew BK314.out)
            have n1_ := Aside0.mk (below_drew1 HB.out)
            clear BK314
            clear HB
            have BK314 := n0_
            have HB := n1_
            clear n0_ n1_
            refine start_ (n := 19) (S := fun w' => w'.cell? ⟨gb314, 0, none⟩ = some (.int .i64 x315000_1) ∧ w'.cell? ⟨gb314, 1, none⟩ = some (.int .u64 x315001_1) ∧ w'.cell? ⟨gb314, 2, none⟩ = some (.int .u64 x315002_1) ∧ w'.cell? ⟨gb314, 3, none⟩ = some (.int .i64 x315003_1) ∧ w'.cell? ⟨gb314, 4, none⟩ = some (.int .i64 x315004_1)) (ds := []) #[false, false, false, false, false, false, false, false, false, false, false, false, false, false, false, false, false, false, false] (by kernel_rfl) rfl rfl ⟨(blk_cell BK314.out 0).trans rfl, (blk_cell BK314.out 1).trans rfl, (blk_cell BK314.out 2).trans rfl, (blk_cell BK314.out 3).trans rfl, (blk_cell BK314.out 4).trans rfl⟩ (fun hHeld => ?_); refine with_tabW soundservicelaw33_PlugFades.tab14 soundservicelaw33_PlugFades.bits14 (fun HT_ HW_ => ?_)
            generalize w60.drew = w61 at BK314 HB hHeld ⊢
            refine pure_ (i := 0) (N := some 77) (v := ?_) (a' := ?_) #[true, false, false, false, false, false, false, false, false, false, false, false, false, false, false, false, false, false, false] rfl rfl (any_of HT_.out (by kernel_rfl)) (fun _ _ _ h => h) (Or.inl ⟨by rfl, ?_⟩) ?_ ?_
            rotate_left
            · intro w'
              go_simp
              with_reducible rfl
            rotate_left
            · simp only [Act.put, List.setIfInBounds_toArray, List.set_cons_zero, List.set_cons_succ, i64_w, i32_w]
              rfl
            refine take_ (i := 1) (N := some 78) (v := ?_) (a' := ?_) #[true, true, false, false, false, false, false, false, false, false, false, false, false, false, false, false, false, false, false] rfl rfl (take_ofW HT_.out HW_.out (by kernel_rfl)) (fun _ _ _ h => h) (Or.inl ⟨by rfl, ?_⟩) hHeld ?_ ?_
            rotate_left
            · rintro w' ⟨s0, s1, s2, s3, s4⟩
              go_simp
              with_reducible rfl
            rotate_left
            · simp only [Act.put, List.setIfInBounds_toArray, List.set_cons_zero, List.set_cons_succ, i64_w, i32_w]
              rfl
            refine pure_ (i := 2) (N := some 79) (v := ?_) (a' := ?_) #[true, true, true, false, false, false, false, false, false, false, false, false, false, false, false, false, false, false, false] rfl rfl (any_of HT_.out (by kernel_rfl)) (fun _ _ _ h => h) (Or.inl ⟨by rfl, ?_⟩) ?_ ?_
            rotate_left
            · intro w'
              go_simp
              with_reducible rfl
            rotate_left
            · simp only [Act.put, List.setIfInBounds_toArray, List.set_cons_zero, List.set_cons_succ, i64_w, i32_w]
              rfl
            refine pure_ (i := 3) (N := some 80) (v := ?_) (a' := ?_) #[true, true, true, true, false, false, false, false, false, false, false, false, false, false, false, false, false, false, false] rfl rfl (any_of HT_.out (by kernel_rfl)) (fun _ _ _ h => h) (Or.inl ⟨by rfl, ?_⟩) ?_ ?_
            rotate_left
            · intro w'
              go_simp
              with_reducible rfl
            rotate_left
            · simp only [Act.put, List.setIfInBounds_toArray, List.set_cons_zero, List.set_cons_succ, i64_w, i32_w]
              rfl
            refine pure_ (i := 4) (N := some 81) (v := undef) (a' := ?_) #[true, true, true, true, true, false, false, false, false, false, false, false, false, false, false, false, false, false, false] rfl rfl (any_of HT_.out (by kernel_rfl)) (fun _ _ _ h => h) (Or.inr ⟨by rfl, rfl⟩) ?_ ?_
            rotate_left
            · simp only [Act.put, List.setIfInBounds_toArray, List.set_cons_zero, List.set_cons_succ, i64_w, i32_w]
              rfl
            refine pure_ (i := 5) (N := some 82) (v := undef) (a' := ?_) #[true, true, true, true, true, true, false, false, false, false, false, false, false, false, false, false, false, false, false] rfl rfl (any_of HT_.out (by kernel_rfl)) (fun _ _ _ h => h) (Or.inr ⟨by rfl, rfl⟩) ?_ ?_
            rotate_left
            · simp only [Act.put, List.setIfInBounds_toArray, List.set_cons_zero, List.set_cons_succ, i64_w, i32_w]
              rfl
            refine pure_ (i := 6) (N := some 83) (v := undef) (a' := ?_) #[true, true, true, true, true, true, true, false, false, false, false, false, false, false, false, false, false, false, false] rfl rfl (any_of HT_.out (by kernel_rfl)) (fun _ _ _ h => h) (Or.inr ⟨by rfl, rfl⟩) ?_ ?_
            rotate_left
            · simp only [Act.put, List.setIfInBounds_toArray, List.set_cons_zero, List.set_cons_succ, i64_w, i32_w]
              rfl
            refine pure_ (i := 7) (N := some 84) (v := ?_) (a' := ?_) #[true, true, true, true, true, true, true, true, false, false, false, false, false, false, false, false, false, false, false] rfl rfl (any_of HT_.out (by kernel_rfl)) (fun _ _ _ h => h) (Or.inl ⟨by rfl, ?_⟩) ?_ ?_
            rotate_left
            · intro w'
              go_simp
              with_reducible rfl
            rotate_left
            · simp only [Act.put, List.setIfInBounds_toArray, List.set_cons_zero, List.set_cons_succ, i64_w, i32_w]
              rfl
            refine pure_ (i := 8) (N := some 85) (v := ?_) (a' := ?_) #[true, true, true, true, true, true, true, true, true, false, false, false, false, false, false, false, false, false, false] rfl rfl (any_of HT_.out (by kernel_rfl)) (fun _ _ _ h => h) (Or.inl ⟨by rfl, ?_⟩) ?_ ?_
            rotate_left
            · intro w'
              go_simp
              with_reducible rfl
            rotate_left
            · simp only [Act.put, List.setIfInBounds_toArray, List.set_cons_zero, List.set_cons_succ, i64_w, i32_w]
              rfl
            refine pure_ (i := 9) (N := some 86) (v := undef) (a' := ?_) #[true, true, true, true, true, true, true, true, true, true, false, false, false, false, false, false, false, false, false] rfl rfl (any_of HT_.out (by kernel_rfl)) (fun _ _ _ h => h) (Or.inr ⟨by rfl, rfl⟩) ?_ ?_
            rotate_left
            · simp only [Act.put, List.setIfInBounds_toArray, List.set_cons_zero, List.set_cons_succ, i64_w, i32_w]
              rfl
            refine pure_ (i := 10) (N := some 87) (v := ?_) (a' := ?_) #[true, true, true, true, true, true, true, true, true, true, true, false, false, false, false, false, false, false, false] rfl rfl (any_of HT_.out (by kernel_rfl)) (fun _ _ _ h => h) (Or.inl ⟨by rfl, ?_⟩) ?_ ?_
            rotate_left
            · intro w'
              go_simp
              with_reducible rfl
            rotate_left
            · simp only [Act.put, List.setIfInBounds_toArray, List.set_cons_zero, List.set_cons_succ, i64_w, i32_w]
              rfl
            refine pure_ (i := 11) (N := some 88) (v := ?_) (a' := ?_) #[true, true, true, true, true, true, true, true, true, true, true, true, false, false, false, false, false, false, false] rfl rfl (any_of HT_.out (by kernel_rfl)) (fun _ _ _ h => h) (Or.inl ⟨by rfl, ?_⟩) ?_ ?_
            rotate_left
            · intro w'
              go_simp
              with_reducible rfl
            rotate_left
            · simp only [Act.put, List.setIfInBounds_toArray, List.set_cons_zero, List.set_cons_succ, i64_w, i32_w]
              rfl
            refine pure_ (i := 12) (N := some 89) (v := undef) (a' := ?_) #[true, true, true, true, true, true, true, true, true, true, true, true, true, false, false, false, false, false, false] rfl rfl (any_of HT_.out (by kernel_rfl)) (fun _ _ _ h => h) (Or.inr ⟨by rfl, rfl⟩) ?_ ?_
            rotate_left
            · simp only [Act.put, List.setIfInBounds_toArray, List.set_cons_zero, List.set_cons_succ, i64_w, i32_w]
              rfl
            refine pure_ (i := 13) (N := some 90) (v := undef) (a' := ?_) #[true, true, true, true, true, true, true, true, true, true, true, true, true, true, false, false, false, false, false] rfl rfl (any_of HT_.out (by kernel_rfl)) (fun _ _ _ h => h) (Or.inr ⟨by rfl, rfl⟩) ?_ ?_
            rotate_left
            · simp only [Act.put, List.setIfInBounds_toArray, List.set_cons_zero, List.set_cons_succ, i64_w, i32_w]
              rfl
            refine pure_ (i := 14) (N := some 91) (v := undef) (a' := ?_) #[true, true, true, true, true, true, true, true, true, true, true, true, true, true, true, false, false, false, false] rfl rfl (any_of HT_.out (by kernel_rfl)) (fun _ _ _ h => h) (Or.inr ⟨by rfl, rfl⟩) ?_ ?_
            rotate_left
            · simp only [Act.put, List.setIfInBounds_toArray, List.set_cons_zero, List.set_cons_succ, i64_w, i32_w]
              rfl
            refine pure_ (i := 15) (N := some 92) (v := undef) (a' := ?_) #[true, true, true, true, true, true, true, true, true, true, true, true, true, true, true, true, false, false, false] rfl rfl (any_of HT_.out (by kernel_rfl)) (fun _ _ _ h => h) (Or.inr ⟨by rfl, rfl⟩) ?_ ?_
            rotate_left
            · simp only [Act.put, List.setIfInBounds_toArray, List.set_cons_zero, List.set_cons_succ, i64_w, i32_w]
              rfl
            refine pure_ (i := 16) (N := some 93) (v := undef) (a' := ?_) #[true, true, true, true, true, true, true, true, true, true, true, true, true, true, true, true, true, false, false] rfl rfl (any_of HT_.out (by kernel_rfl)) (fun _ _ _ h => h) (Or.inr ⟨by rfl, rfl⟩) ?_ ?_
            rotate_left
            · simp only [Act.put, List.setIfInBounds_toArray, List.set_cons_zero, List.set_cons_succ, i64_w, i32_w]
              rfl
            refine pure_ (i := 17) (N := some 94) (v := ?_) (a' := ?_) #[true, true, true, true, true, true, true, true, true, true, true, true, true, true, true, true, true, true, false] rfl rfl (any_of HT_.out (by kernel_rfl)) (fun _ _ _ h => h) (Or.inl ⟨by rfl, ?_⟩) ?_ ?_
            rotate_left
            · intro w'
              go_simp
              with_reducible rfl
            rotate_left
            · simp only [Act.put, List.setIfInBounds_toArray, List.set_cons_zero, List.set_cons_succ, i64_w, i32_w]
              rfl
            refine pure_ (i := 18) (N := some 8) (v := ?_) (a' := ?_) #[true, true, true, true, true, true, true, true, true, true, true, true, true, true, true, true, true, true, true] rfl rfl (any_of HT_.out (by kernel_rfl)) (fun _ _ _ h => h) (Or.inl ⟨by rfl, ?_⟩) ?_ ?_
            rotate_left
            · intro w'
              go_simp
              with_reducible rfl
            rotate_left
            · simp only [Act.put, List.setIfInBounds_toArray, List.set_cons_zero, List.set_cons_succ, i64_w, i32_w]
              rfl
            refine done_ (done_of HT_.out (by kernel_rfl)) ?_
            try go_wp2
            go_ret
            exact ⟨by first | rfl | (simp [errW_none, errW_some] <;> rfl) | (simp [*, errW_none, errW_some] <;> rfl), by repeat (first | (with_reducible first | exact HB.out | apply below_alloc | apply pw_below_drewN | apply below_drew1 | refine below_set ?_ GE314.out) | exact HB.out)⟩
  · replace c6 := Bool.eq_false_iff.mpr c6
    subst c6
    have H1 : (some false) = some r := by rw [if_neg (show ¬ (false = true) by decide)] at H; exact H
    clear H
    have H := H1
    clear H1
    obtain rfl := Option.some.inj H
    go_enter Try.func7, Try.ntmps7
    go_wp2_with (first | ((with_reducible refine gate_callee (f := 20) rfl ?_); refine goesL_ (some 15) rfl rfl Try.func20 (by kernel_rfl) rfl #[] rfl (by (try simp only [List.map_toArray, List.map_cons, List.map_nil]); first | done | rfl | (simp only [List.length_drop, List.length_take]; rfl)) ?_; (with_reducible refine (soundservicelaw33_sane.calls k  false _ A5.out).mono ?_); rintro e w62 ⟨rfl, hb⟩; refine ⟨_, rfl, ?_⟩; have n0_ := Aside0.mk (below_step (by repeat (first | (with_reducible first | exact HB.out | apply below_alloc | apply pw_below_drewN | apply below_drew1) | exact HB.out)) hb); clear HB; have HB := n0_; clear n0_; (try clear hb); (try clear hb2); (try clear hk); (try clear hi)))
    go_ret
    exact ⟨by first | rfl | (simp [errW_none, errW_some] <;> rfl) | (simp [*, errW_none, errW_some] <;> rfl), by repeat (first | (with_reducible first | exact HB.out | apply below_alloc | apply pw_below_drewN | apply below_drew1) | exact HB.out)⟩

/-- THE ONE PURE STATEMENT of soundservicelaw33_PlugFades: yours. -/
def soundservicelaw33_PlugFades.Pure : Prop := ∀ (a0 : Int) (a1 : Int) (a2 : Int) (a3 : Int), (Lit.int .i64 a0).wf = true → (Lit.int .u64 a1).wf = true → (Lit.int .u64 a2).wf = true → (Lit.int .i64 a3).wf = true → ∃ k, soundservicelaw33_PlugFades.f k a0 a1 a2 a3 = some true
theorem soundservicelaw33_PlugFades.walk (P : soundservicelaw33_PlugFades.Pure) (a0 : Int) (a1 : Int) (a2 : Int) (a3 : Int) (w : World) (w0 : (Lit.int .i64 a0).wf = true) (w1 : (Lit.int .u64 a1).wf = true) (w2 : (Lit.int .u64 a2).wf = true) (w3 : (Lit.int .i64 a3).wf = true) :
    Calls Try.prog 7 #[.int .i64 a0, .int .u64 a1, .int .u64 a2, .int .i64 a3] w fun e w' => e = .returned (.bool true) ∧ Below w.heap.size w w' := by
  obtain ⟨k, h⟩ := P a0 a1 a2 a3 w0 w1 w2 w3
  refine (soundservicelaw33_PlugFades.calls k a0 a1 a2 a3 true w h).mono ?_
  rintro e w' ⟨rfl, hd⟩
  exact ⟨rfl, hd⟩

end Go.Proofs.Ytobcpkeapjflhaa.Q
