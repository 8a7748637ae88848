-- Written by a program of this session (wip/tools/given.py) over the translation: Lean checks it.
import Derived.Test.YtobcpkeapjflhaaQx0
import Derived.Test.YtobcpkeapjflhaaQx1
import Derived.Test.YtobcpkeapjflhaaQx3
import Derived.Test.YtobcpkeapjflhaaQx4
import Derived.Test.YtobcpkeapjflhaaQx5
import Derived.Test.YtobcpkeapjflhaaQx6
import Derived.Test.YtobcpkeapjflhaaBegG
namespace Go.Proofs.Ytobcpkeapjflhaa.Q
open Go.RowKit Go.Proofs.YtobcpkeapjflhaaW.PrintWords Go.Proofs.YtobcpkeapjflhaaW.PrintLast Go.Proofs.YtobcpkeapjflhaaW.PrintMore
attribute [local go_sem] max2_int min2_int max_two min_two max_three min_three max_four min_four   -- for this text's walks alone
set_option linter.unusedVariables false
set_option linter.unusedSimpArgs false

attribute [local go_sem high] eqA37
/-! ### soundservicelaw33_PlugMoves: function 6 -/
mutual
def soundservicelaw33_PlugMoves.l0 : Nat → Int → Int → Int → List Int → Int → Int → Int → Int → Int → Int → Int → Int → Int → Int → Int → Int → Option (Bool)
  | 0, _, _, _, _, _, _, _, _, _, _, _, _, _, _, _, _ => none
  | k + 1, x1, x2, x3, x39, x40, x41, x187000, x187001, x187002, x187003, x187004, x191000, x191001, x191002, x191003, x191004 => if x41 < x40 then (if 0 ≤ x41 then (if x41 < (x39.length : Int) then ((some (([(⟨x187000, x187001, x187002, x187003, x187004⟩ : S37), (⟨x191000, x191001, x191002, x191003, x191004⟩ : S37)] : List (S37)) : List (S37))).bind fun y196 => (soundservicelaw33_PlugMoves.l1 k x1 x2 x3 (rd x39 x41) x39 x40 x41 y196 (y196.length : Int) 0 x187000 x187001 x187002 x187003 x187004 x191000 x191001 x191002 x191003 x191004)) else (none)) else (none)) else (some true)
def soundservicelaw33_PlugMoves.l1 : Nat → Int → Int → Int → Int → List Int → Int → Int → List (S37) → Int → Int → Int → Int → Int → Int → Int → Int → Int → Int → Int → Int → Option (Bool)
  | 0, _, _, _, _, _, _, _, _, _, _, _, _, _, _, _, _, _, _, _, _ => none
  | k + 1, x1, x2, x3, x15, x39, x40, x41, x47, x48, x49, x187000, x187001, x187002, x187003, x187004, x191000, x191001, x191002, x191003, x191004 => if x49 < x48 then (if 0 ≤ x49 then (if x49 < (x47.length : Int) then ((plug_Advance.f k ((rd_T37 x47 x49).f0) ((rd_T37 x47 x49).f1) ((rd_T37 x47 x49).f2) ((rd_T37 x47 x49).f3) ((rd_T37 x47 x49).f4) x15).bind fun bt201 => ((soundserviceref33_Advance.f k ((rd_T37 x47 x49).f0) ((rd_T37 x47 x49).f1) ((rd_T37 x47 x49).f2) ((rd_T37 x47 x49).f3) ((rd_T37 x47 x49).f4) x15).bind fun bt206 => (if (!(bt201.1 == bt206.1) || (!(bt201.2.1 == bt206.2.1) || (!(bt201.2.2.1 == bt206.2.2.1) || (!(bt201.2.2.2.1 == bt206.2.2.2.1) || (!(bt201.2.2.2.2 == bt206.2.2.2.2)))))) = true then (some false) else ((plug_Wanted.f ((rd_T37 x47 x49).f0) ((rd_T37 x47 x49).f1) ((rd_T37 x47 x49).f2) ((rd_T37 x47 x49).f3) ((rd_T37 x47 x49).f4)).bind fun bt211 => ((soundserviceref33_Wanted.f ((rd_T37 x47 x49).f0) ((rd_T37 x47 x49).f1) ((rd_T37 x47 x49).f2) ((rd_T37 x47 x49).f3) ((rd_T37 x47 x49).f4)).bind fun bt213 => (if bt211.1 = bt213.1 then (if (bt211.2 != bt213.2) = true then (some false) else (soundservicelaw33_PlugMoves.l1 k x1 x2 x3 x15 x39 x40 x41 x47 x48 (wrap64 (x49 + 1)) x187000 x187001 x187002 x187003 x187004 x191000 x191001 x191002 x191003 x191004)) else (some false))))))) else (none)) else (none)) else ((plug_Begin.f k x1 x2 x3 x15).bind fun bt215 => ((soundserviceref33_Begin.f x1 x2 x3 x15).bind fun bt220 => (if (!(bt215.1 == bt220.1) || (!(bt215.2.1 == bt220.2.1) || (!(bt215.2.2.1 == bt220.2.2.1) || (!(bt215.2.2.2.1 == bt220.2.2.2.1) || (!(bt215.2.2.2.2 == bt220.2.2.2.2)))))) = true then (some false) else ((plug_Begin.f k x1 (Int.tmod x2 2) (Int.tmod x3 2) x15).bind fun bt225 => ((soundserviceref33_Begin.f x1 (Int.tmod x2 2) (Int.tmod x3 2) x15).bind fun bt230 => (if (!(bt225.1 == bt230.1) || (!(bt225.2.1 == bt230.2.1) || (!(bt225.2.2.1 == bt230.2.2.1) || (!(bt225.2.2.2.1 == bt230.2.2.2.1) || (!(bt225.2.2.2.2 == bt230.2.2.2.2)))))) = true then (some false) else (soundservicelaw33_PlugMoves.l0 k x1 x2 x3 x39 x40 (wrap64 (x41 + 1)) x187000 x187001 x187002 x187003 x187004 x191000 x191001 x191002 x191003 x191004)))))))
end
def soundservicelaw33_PlugMoves.f (k : Nat) (a0_0 : Int) (a0_1 : Int) (a0_2 : Int) (a0_3 : Int) (a0_4 : Int) (a1 : Int) (a2 : Int) (a3 : Int) (a4 : Int) (a5 : Int) : Option (Bool) := (soundservicelaw33_sane.f k).bind fun t187 => (if t187 = true then ((soundservicemill_Mod.f a5 5).bind fun t188 => ((soundservicemill_Mod.f (wrap64 (Int.tdiv a5 5)) 4).bind fun t189 => ((soundservicemill_Mod.f a4 5).bind fun t191 => ((some (([a4, wrap64 (1 + t191)] : List Int) : List Int)).bind fun y192 => (soundservicelaw33_PlugMoves.l0 k a1 a2 a3 y192 (y192.length : Int) 0 a0_0 a0_1 a0_2 a0_3 a0_4 a1 (Int.tmod a2 3) (Int.tmod a3 3) t188 t189))))) else (some false))
theorem soundservicelaw33_PlugMoves.mono_l : ∀ k, (∀ y0 y1 y2 y3 y4 y5 y6 y7 y8 y9 y10 y11 y12 y13 y14 y15, LeO (soundservicelaw33_PlugMoves.l0 k y0 y1 y2 y3 y4 y5 y6 y7 y8 y9 y10 y11 y12 y13 y14 y15) (soundservicelaw33_PlugMoves.l0 (k + 1) y0 y1 y2 y3 y4 y5 y6 y7 y8 y9 y10 y11 y12 y13 y14 y15)) ∧ (∀ y0 y1 y2 y3 y4 y5 y6 y7 y8 y9 y10 y11 y12 y13 y14 y15 y16 y17 y18 y19, LeO (soundservicelaw33_PlugMoves.l1 k y0 y1 y2 y3 y4 y5 y6 y7 y8 y9 y10 y11 y12 y13 y14 y15 y16 y17 y18 y19) (soundservicelaw33_PlugMoves.l1 (k + 1) y0 y1 y2 y3 y4 y5 y6 y7 y8 y9 y10 y11 y12 y13 y14 y15 y16 y17 y18 y19))
  | 0 => ⟨fun _ _ _ _ _ _ _ _ _ _ _ _ _ _ _ _ r h => by simp [soundservicelaw33_PlugMoves.l0] at h, fun _ _ _ _ _ _ _ _ _ _ _ _ _ _ _ _ _ _ _ _ r h => by simp [soundservicelaw33_PlugMoves.l1] at h⟩
  | k + 1 => by
    obtain ⟨ih0, ih1⟩ := soundservicelaw33_PlugMoves.mono_l k
    refine ⟨?_, ?_⟩
    · intro y0 y1 y2 y3 y4 y5 y6 y7 y8 y9 y10 y11 y12 y13 y14 y15
      unfold soundservicelaw33_PlugMoves.l0
      repeat' first
      | (with_reducible exact ih0 _ _ _ _ _ _ _ _ _ _ _ _ _ _ _ _)
      | (with_reducible exact ih1 _ _ _ _ _ _ _ _ _ _ _ _ _ _ _ _ _ _ _ _)
      | (with_reducible exact plug_Advance.mono _ _ _ _ _ _ _)
      | (with_reducible exact plug_Begin.mono _ _ _ _ _)
      | (with_reducible exact soundservicelaw33_sane.mono _)
      | (with_reducible exact soundserviceref33_Advance.mono _ _ _ _ _ _ _)
      | (with_reducible exact LeO.refl _)
      | (with_reducible exact LeO.none _)
      | (with_reducible refine LeO.ite ?_ ?_)
      | (with_reducible refine LeO.bind ?_ (fun _ => ?_))
      | exact ih0 _ _ _ _ _ _ _ _ _ _ _ _ _ _ _ _
      | exact ih1 _ _ _ _ _ _ _ _ _ _ _ _ _ _ _ _ _ _ _ _
      | exact plug_Advance.mono _ _ _ _ _ _ _
      | exact plug_Begin.mono _ _ _ _ _
      | exact soundservicelaw33_sane.mono _
      | exact soundserviceref33_Advance.mono _ _ _ _ _ _ _
      | exact LeO.none _
      | refine LeO.ite ?_ ?_
      | refine LeO.bind ?_ (fun _ => ?_)
    · intro y0 y1 y2 y3 y4 y5 y6 y7 y8 y9 y10 y11 y12 y13 y14 y15 y16 y17 y18 y19
      unfold soundservicelaw33_PlugMoves.l1
      repeat' first
      | (with_reducible exact ih0 _ _ _ _ _ _ _ _ _ _ _ _ _ _ _ _)
      | (with_reducible exact ih1 _ _ _ _ _ _ _ _ _ _ _ _ _ _ _ _ _ _ _ _)
      | (with_reducible exact plug_Advance.mono _ _ _ _ _ _ _)
      | (with_reducible exact plug_Begin.mono _ _ _ _ _)
      | (with_reducible exact soundservicelaw33_sane.mono _)
      | (with_reducible exact soundserviceref33_Advance.mono _ _ _ _ _ _ _)
      | (with_reducible exact LeO.refl _)
      | (with_reducible exact LeO.none _)
      | (with_reducible refine LeO.ite ?_ ?_)
      | (with_reducible refine LeO.bind ?_ (fun _ => ?_))
      | exact ih0 _ _ _ _ _ _ _ _ _ _ _ _ _ _ _ _
      | exact ih1 _ _ _ _ _ _ _ _ _ _ _ _ _ _ _ _ _ _ _ _
      | exact plug_Advance.mono _ _ _ _ _ _ _
      | exact plug_Begin.mono _ _ _ _ _
      | exact soundservicelaw33_sane.mono _
      | exact soundserviceref33_Advance.mono _ _ _ _ _ _ _
      | exact LeO.none _
      | refine LeO.ite ?_ ?_
      | refine LeO.bind ?_ (fun _ => ?_)
theorem soundservicelaw33_PlugMoves.mono : ∀ a0 a1 a2 a3 a4 a5 a6 a7 a8 a9 k, LeO (soundservicelaw33_PlugMoves.f k a0 a1 a2 a3 a4 a5 a6 a7 a8 a9) (soundservicelaw33_PlugMoves.f (k + 1) a0 a1 a2 a3 a4 a5 a6 a7 a8 a9) := by
  intro a0 a1 a2 a3 a4 a5 a6 a7 a8 a9 k
  obtain ⟨ih0, ih1⟩ := soundservicelaw33_PlugMoves.mono_l k
  unfold soundservicelaw33_PlugMoves.f
  repeat' first
      | (with_reducible exact ih0 _ _ _ _ _ _ _ _ _ _ _ _ _ _ _ _)
      | (with_reducible exact ih1 _ _ _ _ _ _ _ _ _ _ _ _ _ _ _ _ _ _ _ _)
      | (with_reducible exact plug_Advance.mono _ _ _ _ _ _ _)
      | (with_reducible exact plug_Begin.mono _ _ _ _ _)
      | (with_reducible exact soundservicelaw33_sane.mono _)
      | (with_reducible exact soundserviceref33_Advance.mono _ _ _ _ _ _ _)
      | (with_reducible exact LeO.refl _)
      | (with_reducible exact LeO.none _)
      | (with_reducible refine LeO.ite ?_ ?_)
      | (with_reducible refine LeO.bind ?_ (fun _ => ?_))
      | exact ih0 _ _ _ _ _ _ _ _ _ _ _ _ _ _ _ _
      | exact ih1 _ _ _ _ _ _ _ _ _ _ _ _ _ _ _ _ _ _ _ _
      | exact plug_Advance.mono _ _ _ _ _ _ _
      | exact plug_Begin.mono _ _ _ _ _
      | exact soundservicelaw33_sane.mono _
      | exact soundserviceref33_Advance.mono _ _ _ _ _ _ _
      | exact LeO.none _
      | refine LeO.ite ?_ ?_
      | refine LeO.bind ?_ (fun _ => ?_)
set_option maxHeartbeats 8000000 in
set_option maxRecDepth 100000 in
theorem soundservicelaw33_PlugMoves.calls (k : Nat) (a0_0 : Int) (a0_1 : Int) (a0_2 : Int) (a0_3 : Int) (a0_4 : Int) (a1 : Int) (a2 : Int) (a3 : Int) (a4 : Int) (a5 : Int) (r : Bool) (w : World) (h : soundservicelaw33_PlugMoves.f k a0_0 a0_1 a0_2 a0_3 a0_4 a1 a2 a3 a4 a5 = some r) :
    Calls Try.prog 6 #[.agg #[.int .i64 a0_0, .int .u64 a0_1, .int .u64 a0_2, .int .i64 a0_3, .int .i64 a0_4], .int .i64 a1, .int .u64 a2, .int .u64 a3, .int .i64 a4, .int .i64 a5] w fun e w' => e = .returned (.bool r) ∧ Below w.heap.size w w' := by
  have hu37 := Try.underlying37
  have HB := Aside0.mk (Below.refl w.heap.size w)
  have H : ((soundservicelaw33_sane.f k).bind fun t187 => (if t187 = true then ((soundservicemill_Mod.f a5 5).bind fun t188 => ((soundservicemill_Mod.f (wrap64 (Int.tdiv a5 5)) 4).bind fun t189 => ((soundservicemill_Mod.f a4 5).bind fun t191 => ((some (([a4, wrap64 (1 + t191)] : List Int) : List Int)).bind fun y192 => (soundservicelaw33_PlugMoves.l0 k a1 a2 a3 y192 (y192.length : Int) 0 a0_0 a0_1 a0_2 a0_3 a0_4 a1 (Int.tmod a2 3) (Int.tmod a3 3) t188 t189))))) else (some false))) = some r := h
  clear h
  replace H := Option.bind_eq_some_iff.mp H
  obtain ⟨t187, A70, H⟩ := H
  replace H : (if t187 = true then ((soundservicemill_Mod.f a5 5).bind fun t188 => ((soundservicemill_Mod.f (wrap64 (Int.tdiv a5 5)) 4).bind fun t189 => ((soundservicemill_Mod.f a4 5).bind fun t191 => ((some (([a4, wrap64 (1 + t191)] : List Int) : List Int)).bind fun y192 => (soundservicelaw33_PlugMoves.l0 k a1 a2 a3 y192 (y192.length : Int) 0 a0_0 a0_1 a0_2 a0_3 a0_4 a1 (Int.tmod a2 3) (Int.tmod a3 3) t188 t189))))) else (some false)) = some r := H
  have A7 := Aside0.mk A70
  clear A70
  by_cases c8 : t187 = true
  · subst c8
    have H1 : ((soundservicemill_Mod.f a5 5).bind fun t188 => ((soundservicemill_Mod.f (wrap64 (Int.tdiv a5 5)) 4).bind fun t189 => ((soundservicemill_Mod.f a4 5).bind fun t191 => ((some (([a4, wrap64 (1 + t191)] : List Int) : List Int)).bind fun y192 => (soundservicelaw33_PlugMoves.l0 k a1 a2 a3 y192 (y192.length : Int) 0 a0_0 a0_1 a0_2 a0_3 a0_4 a1 (Int.tmod a2 3) (Int.tmod a3 3) t188 t189))))) = some r := by rw [if_pos rfl] at H; exact H
    clear H
    have H := H1
    clear H1
    replace H := Option.bind_eq_some_iff.mp H
    obtain ⟨t188, A90, H⟩ := H
    replace H : ((soundservicemill_Mod.f (wrap64 (Int.tdiv a5 5)) 4).bind fun t189 => ((soundservicemill_Mod.f a4 5).bind fun t191 => ((some (([a4, wrap64 (1 + t191)] : List Int) : List Int)).bind fun y192 => (soundservicelaw33_PlugMoves.l0 k a1 a2 a3 y192 (y192.length : Int) 0 a0_0 a0_1 a0_2 a0_3 a0_4 a1 (Int.tmod a2 3) (Int.tmod a3 3) t188 t189)))) = some r := H
    have A9 := Aside0.mk A90
    clear A90
    replace H := Option.bind_eq_some_iff.mp H
    obtain ⟨t189, A100, H⟩ := H
    replace H : ((soundservicemill_Mod.f a4 5).bind fun t191 => ((some (([a4, wrap64 (1 + t191)] : List Int) : List Int)).bind fun y192 => (soundservicelaw33_PlugMoves.l0 k a1 a2 a3 y192 (y192.length : Int) 0 a0_0 a0_1 a0_2 a0_3 a0_4 a1 (Int.tmod a2 3) (Int.tmod a3 3) t188 t189))) = some r := H
    have A10 := Aside0.mk A100
    clear A100
    replace H := Option.bind_eq_some_iff.mp H
    obtain ⟨t191, A110, H⟩ := H
    replace H : ((some (([a4, wrap64 (1 + t191)] : List Int) : List Int)).bind fun y192 => (soundservicelaw33_PlugMoves.l0 k a1 a2 a3 y192 (y192.length : Int) 0 a0_0 a0_1 a0_2 a0_3 a0_4 a1 (Int.tmod a2 3) (Int.tmod a3 3) t188 t189)) = some r := H
    have A11 := Aside0.mk A110
    clear A110
    obtain ⟨y192, hy192⟩ : ∃ y_ : List Int, y_ = (([a4, wrap64 (1 + t191)] : List Int)) := ⟨_, rfl⟩
    replace H : (soundservicelaw33_PlugMoves.l0 k a1 a2 a3 y192 (y192.length : Int) 0 a0_0 a0_1 a0_2 a0_3 a0_4 a1 (Int.tmod a2 3) (Int.tmod a3 3) t188 t189) = some r := by first | (rw [hy192]; with_reducible exact H) | (have H2_ := (Option.bind_some _ _).symm.trans H; rw [hy192]; with_reducible exact H2_) | (have H2_ := (Option.bind_some _ _).symm.trans H; with_reducible exact H2_) | with_reducible exact H | (rw [hy192]; exact H) | exact H
    have Ny192 := Aside0.mk hy192
    clear hy192
    have H' := Aside0.mk H
    clear H
    go_enter Try.func6, Try.ntmps6
    go_wp2_with (first | ((with_reducible refine gate_dst (N := 6) rfl ?_); refine box_event ?hg (N := 6) ?hd (cs := #[.int .i64 a0_0, .int .u64 a0_1, .int .u64 a0_2, .int .i64 a0_3, .int .i64 a0_4]) (t := 37) ?hr ?_; (case hd => rfl); (case hg => rfl); (case hr => first | (go_simp; done) | (go_simp; rfl)); intro gb186 hg w12 hbox hb; have n0_ := Aside0.mk (below_step (by repeat (first | (with_reducible first | exact HB.out | apply below_alloc | apply pw_below_drewN | apply below_drew1) | exact HB.out)) hb); have n1_ := Aside0.mk (hbox); have n2_ := Aside0.mk ((by rw [hg]; exact (below_size (by repeat (first | (with_reducible first | exact HB.out | apply below_alloc | apply pw_below_drewN | apply below_drew1) | exact HB.out))) : w.heap.size ≤ gb186)); have n3_ := Aside0.mk ((by rw [hg]; exact (below_size (by repeat (first | (with_reducible first | exact HB.out | apply below_alloc | apply pw_below_drewN | apply below_drew1) | exact HB.out))) : w.heap.size ≤ gb186)); clear HB; have HB := n0_; have BK186 := n1_; have GW186 := n2_; have GE186 := n3_; clear n0_ n1_ n2_ n3_; clear hb hbox hg) | ((with_reducible refine gate_callee (f := 20) rfl ?_); refine goesL_ (some 22) rfl rfl Try.func20 (by kernel_rfl) rfl #[] rfl (by (try simp only [List.map_toArray, List.map_cons, List.map_nil]); first | done | rfl | (simp only [List.length_drop, List.length_take]; rfl)) ?_; (with_reducible refine (soundservicelaw33_sane.calls k  true _ A7.out).mono ?_); rintro e w13 ⟨rfl, hb⟩; refine ⟨_, rfl, ?_⟩; have n0_ := Aside0.mk (blk_below (g := gb186) (o := .cells #[.int .i64 a0_0, .int .u64 a0_1, .int .u64 a0_2, .int .i64 a0_3, .int .i64 a0_4] 37 (0, 0)) (by (with_reducible repeat (first | refine blk_drewN ?_ _ | refine blk_drew ?_ | refine blk_alloc ?_ _)); exact BK186.out) hb); have n1_ := Aside0.mk (below_step (by repeat (first | (with_reducible first | exact HB.out | apply below_alloc | apply pw_below_drewN | apply below_drew1 | refine below_set ?_ GE186.out) | exact HB.out)) hb); clear BK186; clear HB; have BK186 := n0_; have HB := n1_; clear n0_ n1_; (try clear hb); (try clear hb2); (try clear hk); (try clear hi)) | ((with_reducible refine gate_callee (f := 11) rfl ?_); refine goesL_ (some 30) rfl rfl Try.func11 (by kernel_rfl) rfl #[.int .i64 a5, .int .i64 5] rfl (by (try simp only [List.map_toArray, List.map_cons, List.map_nil]); first | done | rfl | (simp only [List.length_drop, List.length_take]; rfl)) ?_; (with_reducible refine (soundservicemill_Mod.calls a5 5 t188 _ A9.out).mono ?_); rintro e w' ⟨rfl, ⟨nd, rfl⟩⟩; refine ⟨_, rfl, ?_⟩; (try (rw [drewN_self w13]; generalize hq_ : World.drewN w13 _ = w13; have n0_ : Aside0 (w13.heap[gb186]? = some (.cells #[.int .i64 a0_0, .int .u64 a0_1, .int .u64 a0_2, .int .i64 a0_3, .int .i64 a0_4] 37 (0, 0))) := ⟨by rw [← hq_]; exact (by (with_reducible repeat (first | refine blk_drewN ?_ _ | refine blk_drew ?_ | refine blk_alloc ?_ _)); exact BK186.out)⟩; have n1_ : Aside0 (Below w.heap.size w w13) := ⟨by rw [← hq_]; exact (by repeat (first | (with_reducible first | exact HB.out | apply below_alloc | apply pw_below_drewN | apply below_drew1 | refine below_set ?_ GE186.out) | exact HB.out))⟩; clear BK186 HB hq_; have BK186 := n0_; have HB := n1_; clear n0_ n1_))) | ((with_reducible refine gate_callee (f := 11) rfl ?_); refine goesL_ (some 33) rfl rfl Try.func11 (by kernel_rfl) rfl #[.int .i64 (wrap64 (Int.tdiv a5 5)), .int .i64 4] rfl (by (try simp only [List.map_toArray, List.map_cons, List.map_nil]); first | done | rfl | (simp only [List.length_drop, List.length_take]; rfl)) ?_; (with_reducible refine (soundservicemill_Mod.calls (wrap64 (Int.tdiv a5 5)) 4 t189 _ A10.out).mono ?_); rintro e w' ⟨rfl, ⟨nd, rfl⟩⟩; refine ⟨_, rfl, ?_⟩; (try (rw [drewN_self w13]; generalize hq_ : World.drewN w13 _ = w13; have n0_ : Aside0 (w13.heap[gb186]? = some (.cells #[.int .i64 a0_0, .int .u64 a0_1, .int .u64 a0_2, .int .i64 a0_3, .int .i64 a0_4] 37 (0, 0))) := ⟨by rw [← hq_]; exact (by (with_reducible repeat (first | refine blk_drewN ?_ _ | refine blk_drew ?_ | refine blk_alloc ?_ _)); exact BK186.out)⟩; have n1_ : Aside0 (Below w.heap.size w w13) := ⟨by rw [← hq_]; exact (by repeat (first | (with_reducible first | exact HB.out | apply below_alloc | apply pw_below_drewN | apply below_drew1 | refine below_set ?_ GE186.out) | exact HB.out))⟩; clear BK186 HB hq_; have BK186 := n0_; have HB := n1_; clear n0_ n1_))) | ((with_reducible refine gate_dst (N := 13) rfl ?_); refine box_event ?hg (N := 13) ?hd (cs := #[.int .i64 0, .int .u64 0, .int .u64 0, .int .i64 0, .int .i64 0]) (t := 37) ?hr ?_; (case hd => rfl); (case hg => rfl); (case hr => first | (go_simp; done) | (go_simp; rfl)); intro gb190 hg w14 hbox hb; have n0_ := Aside0.mk (blk_below (g := gb186) (o := .cells #[.int .i64 a0_0, .int .u64 a0_1, .int .u64 a0_2, .int .i64 a0_3, .int .i64 a0_4] 37 (0, 0)) (by (with_reducible repeat (first | refine blk_drewN ?_ _ | refine blk_drew ?_ | refine blk_alloc ?_ _)); exact BK186.out) hb); have n1_ := Aside0.mk (below_step (by repeat (first | (with_reducible first | exact HB.out | apply below_alloc | apply pw_below_drewN | apply below_drew1 | refine below_set ?_ GE186.out) | exact HB.out)) hb); have n2_ := Aside0.mk (hbox); have n3_ := Aside0.mk ((by rw [hg]; exact (below_size (by repeat (first | (with_reducible first | exact HB.out | apply below_alloc | apply pw_below_drewN | apply below_drew1 | refine below_set ?_ GE186.out) | exact HB.out))) : w.heap.size ≤ gb190)); have n4_ := Aside0.mk ((by rw [hg]; exact (below_size (by repeat (first | (with_reducible first | exact HB.out | apply below_alloc | apply pw_below_drewN | apply below_drew1 | refine below_set ?_ GE186.out) | exact HB.out))) : w.heap.size ≤ gb190)); have n5_ := Aside0.mk ((by rw [hg]; exact Nat.ne_of_lt (blk_lt (g := gb186) (o := .cells #[.int .i64 a0_0, .int .u64 a0_1, .int .u64 a0_2, .int .i64 a0_3, .int .i64 a0_4] 37 (0, 0)) (by (with_reducible repeat (first | refine blk_drewN ?_ _ | refine blk_drew ?_ | refine blk_alloc ?_ _)); exact BK186.out)) : gb186 ≠ gb190)); have n6_ := Aside0.mk ((by rw [hg]; exact Nat.ne_of_gt (blk_lt (g := gb186) (o := .cells #[.int .i64 a0_0, .int .u64 a0_1, .int .u64 a0_2, .int .i64 a0_3, .int .i64 a0_4] 37 (0, 0)) (by (with_reducible repeat (first | refine blk_drewN ?_ _ | refine blk_drew ?_ | refine blk_alloc ?_ _)); exact BK186.out)) : gb190 ≠ gb186)); clear BK186; clear HB; have BK186 := n0_; have HB := n1_; have BK190 := n2_; have GW190 := n3_; have GE190 := n4_; have NB186_190 := n5_; have NB190_186 := n6_; clear n0_ n1_ n2_ n3_ n4_ n5_ n6_; clear hb hbox hg; have hnb15 := NB190_186.out; have hnc15 := NB186_190.out; have hcz16_0 : w14.cell? ⟨gb190, 0, none⟩ = some (.int .i64 0) := (blk_cell BK190.out 0).trans rfl; have hcz16_1 : w14.cell? ⟨gb190, 1, none⟩ = some (.int .u64 0) := (blk_cell BK190.out 1).trans rfl; have hcz16_2 : w14.cell? ⟨gb190, 2, none⟩ = some (.int .u64 0) := (blk_cell BK190.out 2).trans rfl; have hcz16_3 : w14.cell? ⟨gb190, 3, none⟩ = some (.int .i64 0) := (blk_cell BK190.out 3).trans rfl; have hcz16_4 : w14.cell? ⟨gb190, 4, none⟩ = some (.int .i64 0) := (blk_cell BK190.out 4).trans rfl; have hfz16_0 := blk_frozen BK190.out 0; have hfz16_1 := blk_frozen BK190.out 1; have hfz16_2 := blk_frozen BK190.out 2; have hfz16_3 := blk_frozen BK190.out 3; have hfz16_4 := blk_frozen BK190.out 4) | ((with_reducible refine gate_callee (f := 11) rfl ?_); refine goesL_ (some 37) rfl rfl Try.func11 (by kernel_rfl) rfl #[.int .i64 a4, .int .i64 5] rfl (by (try simp only [List.map_toArray, List.map_cons, List.map_nil]); first | done | rfl | (simp only [List.length_drop, List.length_take]; rfl)) ?_; (with_reducible refine (soundservicemill_Mod.calls a4 5 t191 _ A11.out).mono ?_); rintro e w' ⟨rfl, ⟨nd, rfl⟩⟩; refine ⟨_, rfl, ?_⟩) | ((with_reducible refine gate_dst (N := 39) rfl ?_); refine Kd.R_lit (Kd.int .i64) _ 3 ?hg (N := 39) ?hd (xs := ([a4, wrap64 (1 + t191)] : List Int)) (inner := [.int .i64 a4, .int .i64 (wrap64 (1 + t191))]) (ok := fun _ => True) (okp := fun _ => True) ?hr ?hp (fun _ hk => hk) trivial (Below.refl _ _) (Nat.le_refl _) (by simp) ?_; (case hd => rfl); (case hg => rfl); (case hr => first | (go_simp; done) | (go_simp; rfl)); (case hp => exact (Reps.one (show Kd.M (Kd.int .i64) _ _ _ a4 [.int .i64 a4] from rfl) (Reps.one (show Kd.M (Kd.int .i64) _ _ _ (wrap64 (1 + t191)) [.int .i64 (wrap64 (1 + t191))] from rfl) (Reps.none _ _)))); intro v193 w17 ho18 hb hg_ hnew_; clear hg_ hnew_; (first | rw [← Ny192.out] at ho18 | (simp only [Int.reduceToNat] at ho18; rw [← Ny192.out] at ho18)); have n0_ := Aside0.mk (Kd.R_lower ho18 (below_size (by repeat (first | (with_reducible first | exact HB.out | apply below_alloc | apply pw_below_drewN | apply below_drew1 | refine below_set ?_ GE186.out | refine below_set ?_ GE190.out) | exact HB.out)))); have n1_ := Aside0.mk (blk_below (g := gb186) (o := .cells #[.int .i64 a0_0, .int .u64 a0_1, .int .u64 a0_2, .int .i64 a0_3, .int .i64 a0_4] 37 (0, 0)) (by (with_reducible repeat (first | refine blk_drewN ?_ _ | refine blk_drew ?_ | refine blk_alloc ?_ _)); refine blk_far ?_ NB186_190.out _; (with_reducible repeat (first | refine blk_drewN ?_ _ | refine blk_drew ?_ | refine blk_alloc ?_ _)); refine blk_far ?_ NB186_190.out _; (with_reducible repeat (first | refine blk_drewN ?_ _ | refine blk_drew ?_ | refine blk_alloc ?_ _)); refine blk_far ?_ NB186_190.out _; (with_reducible repeat (first | refine blk_drewN ?_ _ | refine blk_drew ?_ | refine blk_alloc ?_ _)); refine blk_far ?_ NB186_190.out _; (with_reducible repeat (first | refine blk_drewN ?_ _ | refine blk_drew ?_ | refine blk_alloc ?_ _)); refine blk_far ?_ NB186_190.out _; (with_reducible repeat (first | refine blk_drewN ?_ _ | refine blk_drew ?_ | refine blk_alloc ?_ _)); exact BK186.out) hb); have n2_ := Aside0.mk (blk_below (g := gb190) (o := .cells #[.int .i64 a1, .int .u64 (Int.tmod a2 3), .int .u64 (Int.tmod a3 3), .int .i64 t188, .int .i64 t189] 37 (0, 0)) (by (with_reducible repeat (first | refine blk_drewN ?_ _ | refine blk_drew ?_ | refine blk_alloc ?_ _)); refine blk_put (cs := #[.int .i64 a1, .int .u64 (Int.tmod a2 3), .int .u64 (Int.tmod a3 3), .int .i64 t188, .int .i64 0]) ?_ 4 _ rfl; (with_reducible repeat (first | refine blk_drewN ?_ _ | refine blk_drew ?_ | refine blk_alloc ?_ _)); refine blk_put (cs := #[.int .i64 a1, .int .u64 (Int.tmod a2 3), .int .u64 (Int.tmod a3 3), .int .i64 0, .int .i64 0]) ?_ 3 _ rfl; (with_reducible repeat (first | refine blk_drewN ?_ _ | refine blk_drew ?_ | refine blk_alloc ?_ _)); refine blk_put (cs := #[.int .i64 a1, .int .u64 (Int.tmod a2 3), .int .u64 0, .int .i64 0, .int .i64 0]) ?_ 2 _ rfl; (with_reducible repeat (first | refine blk_drewN ?_ _ | refine blk_drew ?_ | refine blk_alloc ?_ _)); refine blk_put (cs := #[.int .i64 a1, .int .u64 0, .int .u64 0, .int .i64 0, .int .i64 0]) ?_ 1 _ rfl; (with_reducible repeat (first | refine blk_drewN ?_ _ | refine blk_drew ?_ | refine blk_alloc ?_ _)); refine blk_put (cs := #[.int .i64 0, .int .u64 0, .int .u64 0, .int .i64 0, .int .i64 0]) ?_ 0 _ rfl; (with_reducible repeat (first | refine blk_drewN ?_ _ | refine blk_drew ?_ | refine blk_alloc ?_ _)); exact BK190.out) hb); have n3_ := Aside0.mk (below_step (by repeat (first | (with_reducible first | exact HB.out | apply below_alloc | apply pw_below_drewN | apply below_drew1 | refine below_set ?_ GE186.out | refine below_set ?_ GE190.out) | exact HB.out)) hb); clear BK186; clear BK190; clear HB; have HO194 := n0_; have BK186 := n1_; have BK190 := n2_; have HB := n3_; clear n0_ n1_ n2_ n3_; clear hb ho18; obtain ⟨Ao19, co19, eo19⟩ := Kd.R_slice HO194.out; subst eo19))
    go_loopg [41] k (fun kq v41 w' => ∃ (x41_1 : Int), v41 = .int .i64 x41_1 ∧ Aside0 (soundservicelaw33_PlugMoves.l0 kq a1 a2 a3 y192 (y192.length : Int) x41_1 a0_0 a0_1 a0_2 a0_3 a0_4 a1 (Int.tmod a2 3) (Int.tmod a3 3) t188 t189 = some r) ∧ Aside0 (kq ≤ k) ∧ Aside0 (Kd.R (Kd.int .i64) 3 w' w.heap.size (fun _ => True) (.slice Ao19 y192.length co19) y192) ∧ Aside0 (w'.heap[gb186]? = some (.cells #[.int .i64 a0_0, .int .u64 a0_1, .int .u64 a0_2, .int .i64 a0_3, .int .i64 a0_4] 37 (0, 0))) ∧ Aside0 (w'.heap[gb190]? = some (.cells #[.int .i64 a1, .int .u64 (Int.tmod a2 3), .int .u64 (Int.tmod a3 3), .int .i64 t188, .int .i64 t189] 37 (0, 0))) ∧ Aside0 (Below w.heap.size w w'))
    case atStart => exact ⟨(0), (by first | rfl | (simp; done) | (simp [*]; done)), H', ⟨Nat.le_refl _⟩, ⟨by (with_reducible repeat (first | apply Kd.R_alloc | apply Kd.R_drewN | apply Kd.R_drew)); exact HO194.out⟩, ⟨by (with_reducible repeat (first | refine blk_drewN ?_ _ | refine blk_drew ?_ | refine blk_alloc ?_ _)); exact BK186.out⟩, ⟨by (with_reducible repeat (first | refine blk_drewN ?_ _ | refine blk_drew ?_ | refine blk_alloc ?_ _)); exact BK190.out⟩, ⟨by repeat (first | (with_reducible first | exact HB.out | apply below_alloc | apply pw_below_drewN | apply below_drew1 | refine below_set ?_ GE186.out | refine below_set ?_ GE190.out) | exact HB.out)⟩⟩
    case round =>
      clear H'
      try clear c1
      try clear c2
      try clear p2
      try clear c6
      try clear p6
      try clear c8
      try clear c11
      try clear c15
      try clear hcz16_0
      try clear hcz16_1
      try clear hcz16_2
      try clear hcz16_3
      try clear hcz16_4
      try clear hfz16_0
      try clear hfz16_1
      try clear hfz16_2
      try clear hfz16_3
      try clear hfz16_4
      obtain ⟨x41_1, rfl, HA, HK1, HO_39, BK186, BK190, HB⟩ := hrel
      cases gk with
      | zero => exact absurd HA.out (by simp [soundservicelaw33_PlugMoves.l0])
      | succ k1 =>
        have H := HA.out
        clear HA
        simp only [soundservicelaw33_PlugMoves.l0] at H
        by_cases c20 : x41_1 < (y192.length : Int)
        · rw [if_pos c20] at H
          have c20b0 : decide (x41_1 < (y192.length : Int)) = true := decide_eq_true c20
          clear c20
          by_cases c21 : 0 ≤ x41_1
          · rw [if_pos c21] at H
            have c21b0 : decide (0 ≤ x41_1) = true := decide_eq_true c21
            clear c21
            by_cases c22 : x41_1 < (y192.length : Int)
            · rw [if_pos c22] at H
              have c22b0 : decide (x41_1 < (y192.length : Int)) = true := decide_eq_true c22
              clear c22
              obtain ⟨y196, hy196⟩ : ∃ y_ : List (S37), y_ = (([(⟨a0_0, a0_1, a0_2, a0_3, a0_4⟩ : S37), (⟨a1, (Int.tmod a2 3), (Int.tmod a3 3), t188, t189⟩ : S37)] : List (S37))) := ⟨_, rfl⟩
              replace H : (soundservicelaw33_PlugMoves.l1 k1 a1 a2 a3 (rd y192 x41_1) y192 (y192.length : Int) x41_1 y196 (y196.length : Int) 0 a0_0 a0_1 a0_2 a0_3 a0_4 a1 (Int.tmod a2 3) (Int.tmod a3 3) t188 t189) = some r := by first | (rw [hy196]; with_reducible exact H) | (have H2_ := (Option.bind_some _ _).symm.trans H; rw [hy196]; with_reducible exact H2_) | (have H2_ := (Option.bind_some _ _).symm.trans H; with_reducible exact H2_) | with_reducible exact H | (rw [hy196]; exact H) | exact H
              have Ny196 := Aside0.mk hy196
              clear hy196
              have H' := Aside0.mk H
              clear H
              have p195 : 0 ≤ (x41_1 : Int) := of_decide_eq_true (by first | (with_reducible assumption) | assumption)
              have q195 : x41_1 < (y192.length : Int) := of_decide_eq_true (by first | (with_reducible assumption) | assumption)
              obtain ⟨ad195, e195, hx195_0⟩ := Kd.at_int (Kd.R_reads' HO_39.out).2.2 x41_1 p195 q195
              cases e195
              replace p195 := eq_true p195
              replace q195 := eq_true q195
              have hnb23 := NB186_190.out
              have hnc23 := NB190_186.out
              have hcz24_0 : wr.cell? ⟨gb186, 0, none⟩ = some (.int .i64 a0_0) := (blk_cell BK186.out 0).trans rfl
              have hcz24_1 : wr.cell? ⟨gb186, 1, none⟩ = some (.int .u64 a0_1) := (blk_cell BK186.out 1).trans rfl
              have hcz24_2 : wr.cell? ⟨gb186, 2, none⟩ = some (.int .u64 a0_2) := (blk_cell BK186.out 2).trans rfl
              have hcz24_3 : wr.cell? ⟨gb186, 3, none⟩ = some (.int .i64 a0_3) := (blk_cell BK186.out 3).trans rfl
              have hcz24_4 : wr.cell? ⟨gb186, 4, none⟩ = some (.int .i64 a0_4) := (blk_cell BK186.out 4).trans rfl
              have hfz24_0 := blk_frozen BK186.out 0
              have hfz24_1 := blk_frozen BK186.out 1
              have hfz24_2 := blk_frozen BK186.out 2
              have hfz24_3 := blk_frozen BK186.out 3
              have hfz24_4 := blk_frozen BK186.out 4
              have hcz25_0 : wr.cell? ⟨gb190, 0, none⟩ = some (.int .i64 a1) := (blk_cell BK190.out 0).trans rfl
              have hcz25_1 : wr.cell? ⟨gb190, 1, none⟩ = some (.int .u64 (Int.tmod a2 3)) := (blk_cell BK190.out 1).trans rfl
              have hcz25_2 : wr.cell? ⟨gb190, 2, none⟩ = some (.int .u64 (Int.tmod a3 3)) := (blk_cell BK190.out 2).trans rfl
              have hcz25_3 : wr.cell? ⟨gb190, 3, none⟩ = some (.int .i64 t188) := (blk_cell BK190.out 3).trans rfl
              have hcz25_4 : wr.cell? ⟨gb190, 4, none⟩ = some (.int .i64 t189) := (blk_cell BK190.out 4).trans rfl
              have hfz25_0 := blk_frozen BK190.out 0
              have hfz25_1 := blk_frozen BK190.out 1
              have hfz25_2 := blk_frozen BK190.out 2
              have hfz25_3 := blk_frozen BK190.out 3
              have hfz25_4 := blk_frozen BK190.out 4
              go_wp2_with (first | ((with_reducible refine gate_dst (N := 47) rfl ?_); refine Kd.R_lit k37 _ 37 ?hg (N := 47) ?hd (xs := ([(⟨a0_0, a0_1, a0_2, a0_3, a0_4⟩ : S37), (⟨a1, (Int.tmod a2 3), (Int.tmod a3 3), t188, t189⟩ : S37)] : List (S37))) (inner := [.int .i64 a0_0, .int .u64 a0_1, .int .u64 a0_2, .int .i64 a0_3, .int .i64 a0_4, .int .i64 a1, .int .u64 (Int.tmod a2 3), .int .u64 (Int.tmod a3 3), .int .i64 t188, .int .i64 t189]) (ok := fun _ => True) (okp := fun _ => True) ?hr ?hp (fun _ hk => hk) trivial (Below.refl _ _) (Nat.le_refl _) (by simp) ?_; (case hd => rfl); (case hg => rfl); (case hr => first | (go_simp; done) | (go_simp; rfl)); (case hp => exact (Reps.c5 (show Kd.M k37 _ _ _ (⟨a0_0, a0_1, a0_2, a0_3, a0_4⟩ : S37) [.int .i64 a0_0, .int .u64 a0_1, .int .u64 a0_2, .int .i64 a0_3, .int .i64 a0_4] from (k37_mkM _ _ _ (⟨a0_0, a0_1, a0_2, a0_3, a0_4⟩ : S37) )) (Reps.c5 (show Kd.M k37 _ _ _ (⟨a1, (Int.tmod a2 3), (Int.tmod a3 3), t188, t189⟩ : S37) [.int .i64 a1, .int .u64 (Int.tmod a2 3), .int .u64 (Int.tmod a3 3), .int .i64 t188, .int .i64 t189] from (k37_mkM _ _ _ (⟨a1, (Int.tmod a2 3), (Int.tmod a3 3), t188, t189⟩ : S37) )) (Reps.none _ _)))); intro v197 w26 ho27 hb hg_ hnew_; clear hg_ hnew_; (first | rw [← Ny196.out] at ho27 | (simp only [Int.reduceToNat] at ho27; rw [← Ny196.out] at ho27)); have n0_ := Aside0.mk (Kd.R_below (by (with_reducible repeat (first | apply Kd.R_alloc | apply Kd.R_drewN | apply Kd.R_drew)); exact HO_39.out) hb); have n1_ := Aside0.mk (Kd.R_lower (Kd.R_newB (Kd.R_newB ho27 (g := gb186) (o := .cells #[.int .i64 a0_0, .int .u64 a0_1, .int .u64 a0_2, .int .i64 a0_3, .int .i64 a0_4] 37 (0, 0)) (by (with_reducible repeat (first | refine blk_drewN ?_ _ | refine blk_drew ?_ | refine blk_alloc ?_ _)); exact BK186.out)) (g := gb190) (o := .cells #[.int .i64 a1, .int .u64 (Int.tmod a2 3), .int .u64 (Int.tmod a3 3), .int .i64 t188, .int .i64 t189] 37 (0, 0)) (by (with_reducible repeat (first | refine blk_drewN ?_ _ | refine blk_drew ?_ | refine blk_alloc ?_ _)); exact BK190.out)) (below_size (by repeat (first | (with_reducible first | exact HB.out | apply below_alloc | apply pw_below_drewN | apply below_drew1 | refine below_set ?_ GE186.out | refine below_set ?_ GE190.out) | exact HB.out)))); have n2_ := Aside0.mk (blk_below (g := gb186) (o := .cells #[.int .i64 a0_0, .int .u64 a0_1, .int .u64 a0_2, .int .i64 a0_3, .int .i64 a0_4] 37 (0, 0)) (by (with_reducible repeat (first | refine blk_drewN ?_ _ | refine blk_drew ?_ | refine blk_alloc ?_ _)); exact BK186.out) hb); have n3_ := Aside0.mk (blk_below (g := gb190) (o := .cells #[.int .i64 a1, .int .u64 (Int.tmod a2 3), .int .u64 (Int.tmod a3 3), .int .i64 t188, .int .i64 t189] 37 (0, 0)) (by (with_reducible repeat (first | refine blk_drewN ?_ _ | refine blk_drew ?_ | refine blk_alloc ?_ _)); exact BK190.out) hb); have n4_ := Aside0.mk (below_step (by repeat (first | (with_reducible first | exact HB.out | apply below_alloc | apply pw_below_drewN | apply below_drew1 | refine below_set ?_ GE186.out | refine below_set ?_ GE190.out) | exact HB.out)) hb); clear HO_39; clear BK186; clear BK190; clear HB; have HO_39 := n0_; have HO198 := n1_; have BK186 := n2_; have BK190 := n3_; have HB := n4_; clear n0_ n1_ n2_ n3_ n4_; clear hb ho27; obtain ⟨Ao28, co28, eo28⟩ := Kd.R_slice HO198.out; subst eo28))
              go_loopg [49] k1 (fun kq v49 w' => ∃ (x49_2 : Int), v49 = .int .i64 x49_2 ∧ Aside0 (soundservicelaw33_PlugMoves.l1 kq a1 a2 a3 (rd y192 x41_1) y192 (y192.length : Int) x41_1 y196 (y196.length : Int) x49_2 a0_0 a0_1 a0_2 a0_3 a0_4 a1 (Int.tmod a2 3) (Int.tmod a3 3) t188 t189 = some r) ∧ Aside0 (kq ≤ k1) ∧ Aside0 (Kd.R (Kd.int .i64) 3 w' w.heap.size (fun _ => True) (.slice (some ad195) y192.length co19) y192) ∧ Aside0 (Kd.R k37 37 w' w.heap.size (fun k_ => k_ ≠ gb186 ∧ k_ ≠ gb190) (.slice Ao28 y196.length co28) y196) ∧ Aside0 (w'.heap[gb186]? = some (.cells #[.int .i64 a0_0, .int .u64 a0_1, .int .u64 a0_2, .int .i64 a0_3, .int .i64 a0_4] 37 (0, 0))) ∧ Aside0 (w'.heap[gb190]? = some (.cells #[.int .i64 a1, .int .u64 (Int.tmod a2 3), .int .u64 (Int.tmod a3 3), .int .i64 t188, .int .i64 t189] 37 (0, 0))) ∧ Aside0 (Below w.heap.size w w'))
              case atStart => exact ⟨(0), (by first | rfl | (simp; done) | (simp [*]; done)), H', ⟨Nat.le_refl _⟩, ⟨by (with_reducible repeat (first | apply Kd.R_alloc | apply Kd.R_drewN | apply Kd.R_drew)); exact HO_39.out⟩, ⟨by (with_reducible repeat (first | apply Kd.R_alloc | apply Kd.R_drewN | apply Kd.R_drew)); exact Kd.R_mono HO198.out (fun _ hk => ⟨hk.1.2, hk.2⟩)⟩, ⟨by (with_reducible repeat (first | refine blk_drewN ?_ _ | refine blk_drew ?_ | refine blk_alloc ?_ _)); exact BK186.out⟩, ⟨by (with_reducible repeat (first | refine blk_drewN ?_ _ | refine blk_drew ?_ | refine blk_alloc ?_ _)); exact BK190.out⟩, ⟨by repeat (first | (with_reducible first | exact HB.out | apply below_alloc | apply pw_below_drewN | apply below_drew1 | refine below_set ?_ GE186.out | refine below_set ?_ GE190.out) | exact HB.out)⟩⟩
              case round =>
                clear H'
                try clear c1
                try clear p1
                try clear q1
                try clear hx1
                try clear c2
                try clear p2
                try clear c5
                try clear c6
                try clear p6
                try clear c8
                try clear c11
                try clear c15
                try clear p19
                try clear q19
                try clear hx19
                try clear c20
                try clear c20b0
                try clear c21
                try clear c21b0
                try clear c22
                try clear c22b0
                try clear c23
                try clear hcz16_0
                try clear hcz16_1
                try clear hcz16_2
                try clear hcz16_3
                try clear hcz16_4
                try clear hcz24_0
                try clear hcz24_1
                try clear hcz24_2
                try clear hcz24_3
                try clear hcz24_4
                try clear hcz25_0
                try clear hcz25_1
                try clear hcz25_2
                try clear hcz25_3
                try clear hcz25_4
                try clear hfz16_0
                try clear hfz16_1
                try clear hfz16_2
                try clear hfz16_3
                try clear hfz16_4
                try clear hfz24_0
                try clear hfz24_1
                try clear hfz24_2
                try clear hfz24_3
                try clear hfz24_4
                try clear hfz25_0
                try clear hfz25_1
                try clear hfz25_2
                try clear hfz25_3
                try clear hfz25_4
                try clear hx195_0
                try clear p195
                try clear p2
                try clear p6
                try clear q195
                obtain ⟨x49_2, rfl, HA, HK2, HO_39, HO_47, BK186, BK190, HB⟩ := hrel
                cases gk with
                | zero => exact absurd HA.out (by simp [soundservicelaw33_PlugMoves.l1])
                | succ k2 =>
                  have H := HA.out
                  clear HA
                  simp only [soundservicelaw33_PlugMoves.l1] at H
                  by_cases c29 : x49_2 < (y196.length : Int)
                  · rw [if_pos c29] at H
                    have c29b0 : decide (x49_2 < (y196.length : Int)) = true := decide_eq_true c29
                    clear c29
                    by_cases c30 : 0 ≤ x49_2
                    · rw [if_pos c30] at H
                      have c30b0 : decide (0 ≤ x49_2) = true := decide_eq_true c30
                      clear c30
                      by_cases c31 : x49_2 < (y196.length : Int)
                      · rw [if_pos c31] at H
                        have c31b0 : decide (x49_2 < (y196.length : Int)) = true := decide_eq_true c31
                        clear c31
                        replace H := Option.bind_eq_some_iff.mp H
                        obtain ⟨⟨t201, t202, t203, t204, t205⟩, A320, H⟩ := H
                        replace H : ((soundserviceref33_Advance.f k2 ((rd_T37 y196 x49_2).f0) ((rd_T37 y196 x49_2).f1) ((rd_T37 y196 x49_2).f2) ((rd_T37 y196 x49_2).f3) ((rd_T37 y196 x49_2).f4) (rd y192 x41_1)).bind fun bt206 => (if (!(t201 == bt206.1) || (!(t202 == bt206.2.1) || (!(t203 == bt206.2.2.1) || (!(t204 == bt206.2.2.2.1) || (!(t205 == bt206.2.2.2.2)))))) = true then (some false) else ((plug_Wanted.f ((rd_T37 y196 x49_2).f0) ((rd_T37 y196 x49_2).f1) ((rd_T37 y196 x49_2).f2) ((rd_T37 y196 x49_2).f3) ((rd_T37 y196 x49_2).f4)).bind fun bt211 => ((soundserviceref33_Wanted.f ((rd_T37 y196 x49_2).f0) ((rd_T37 y196 x49_2).f1) ((rd_T37 y196 x49_2).f2) ((rd_T37 y196 x49_2).f3) ((rd_T37 y196 x49_2).f4)).bind fun bt213 => (if bt211.1 = bt213.1 then (if (bt211.2 != bt213.2) = true then (some false) else (soundservicelaw33_PlugMoves.l1 k2 a1 a2 a3 (rd y192 x41_1) y192 (y192.length : Int) x41_1 y196 (y196.length : Int) (wrap64 (x49_2 + 1)) a0_0 a0_1 a0_2 a0_3 a0_4 a1 (Int.tmod a2 3) (Int.tmod a3 3) t188 t189)) else (some false)))))) = some r := H
                        have A32 := Aside0.mk A320
                        clear A320
                        replace H := Option.bind_eq_some_iff.mp H
                        obtain ⟨⟨t206, t207, t208, t209, t210⟩, A330, H⟩ := H
                        replace H : (if (!(t201 == t206) || (!(t202 == t207) || (!(t203 == t208) || (!(t204 == t209) || (!(t205 == t210)))))) = true then (some false) else ((plug_Wanted.f ((rd_T37 y196 x49_2).f0) ((rd_T37 y196 x49_2).f1) ((rd_T37 y196 x49_2).f2) ((rd_T37 y196 x49_2).f3) ((rd_T37 y196 x49_2).f4)).bind fun bt211 => ((soundserviceref33_Wanted.f ((rd_T37 y196 x49_2).f0) ((rd_T37 y196 x49_2).f1) ((rd_T37 y196 x49_2).f2) ((rd_T37 y196 x49_2).f3) ((rd_T37 y196 x49_2).f4)).bind fun bt213 => (if bt211.1 = bt213.1 then (if (bt211.2 != bt213.2) = true then (some false) else (soundservicelaw33_PlugMoves.l1 k2 a1 a2 a3 (rd y192 x41_1) y192 (y192.length : Int) x41_1 y196 (y196.length : Int) (wrap64 (x49_2 + 1)) a0_0 a0_1 a0_2 a0_3 a0_4 a1 (Int.tmod a2 3) (Int.tmod a3 3) t188 t189)) else (some false))))) = some r := H
                        have A33 := Aside0.mk A330
                        clear A330
                        by_cases c34 : (!(t201 == t206) || (!(t202 == t207) || (!(t203 == t208) || (!(t204 == t209) || (!(t205 == t210)))))) = true
                        · rw [if_pos c34] at H
                          have c34b0 : (!(t201 == t206) || (!(t202 == t207) || (!(t203 == t208) || (!(t204 == t209) || (!(t205 == t210)))))) = true := c34
                          clear c34
                          obtain rfl := Option.some.inj H
                          have p199 : 0 ≤ (x49_2 : Int) := of_decide_eq_true (by first | (with_reducible assumption) | assumption)
                          have q199 : x49_2 < (y196.length : Int) := of_decide_eq_true (by first | (with_reducible assumption) | assumption)
                          obtain ⟨ad199, e199, hx199_0, hx199_1, hx199_2, hx199_3, hx199_4⟩ := at_T37 (Kd.R_reads' HO_47.out).2.2 x49_2 p199 q199
                          cases e199
                          replace p199 := eq_true p199
                          replace q199 := eq_true q199
                          try go_wp2_with (first | ((with_reducible refine gate_dst (N := 17) rfl ?_); refine box_event ?hg (N := 17) ?hd (cs := #[.int .i64 0, .int .u64 0, .int .u64 0, .int .i64 0, .int .i64 0]) (t := 37) ?hr ?_; (case hd => rfl); (case hg => rfl); (case hr => first | (go_simp; done) | (go_simp; rfl)); intro gb200 hg w35 hbox hb; have n0_ := Aside0.mk (Kd.R_below (by (with_reducible repeat (first | apply Kd.R_alloc | apply Kd.R_drewN | apply Kd.R_drew)); exact HO_39.out) hb); have n1_ := Aside0.mk (Kd.R_below (Kd.R_elderB (by (with_reducible repeat (first | apply Kd.R_alloc | apply Kd.R_drewN | apply Kd.R_drew)); exact HO_47.out) gb200 (Nat.le_of_eq hg.symm)) hb); have n2_ := Aside0.mk (blk_below (g := gb186) (o := .cells #[.int .i64 a0_0, .int .u64 a0_1, .int .u64 a0_2, .int .i64 a0_3, .int .i64 a0_4] 37 (0, 0)) (by (with_reducible repeat (first | refine blk_drewN ?_ _ | refine blk_drew ?_ | refine blk_alloc ?_ _)); exact BK186.out) hb); have n3_ := Aside0.mk (blk_below (g := gb190) (o := .cells #[.int .i64 a1, .int .u64 (Int.tmod a2 3), .int .u64 (Int.tmod a3 3), .int .i64 t188, .int .i64 t189] 37 (0, 0)) (by (with_reducible repeat (first | refine blk_drewN ?_ _ | refine blk_drew ?_ | refine blk_alloc ?_ _)); exact BK190.out) hb); have n4_ := Aside0.mk (below_step (by repeat (first | (with_reducible first | exact HB.out | apply below_alloc | apply pw_below_drewN | apply below_drew1 | refine below_set ?_ GE186.out | refine below_set ?_ GE190.out) | exact HB.out)) hb); have n5_ := Aside0.mk (hbox); have n6_ := Aside0.mk ((by rw [hg]; exact (below_size (by repeat (first | (with_reducible first | exact HB.out | apply below_alloc | apply pw_below_drewN | apply below_drew1 | refine below_set ?_ GE186.out | refine below_set ?_ GE190.out) | exact HB.out))) : w.heap.size ≤ gb200)); have n7_ := Aside0.mk ((by rw [hg]; exact (below_size (by repeat (first | (with_reducible first | exact HB.out | apply below_alloc | apply pw_below_drewN | apply below_drew1 | refine below_set ?_ GE186.out | refine below_set ?_ GE190.out) | exact HB.out))) : w.heap.size ≤ gb200)); have n8_ := Aside0.mk ((by rw [hg]; exact Nat.ne_of_lt (blk_lt (g := gb186) (o := .cells #[.int .i64 a0_0, .int .u64 a0_1, .int .u64 a0_2, .int .i64 a0_3, .int .i64 a0_4] 37 (0, 0)) (by (with_reducible repeat (first | refine blk_drewN ?_ _ | refine blk_drew ?_ | refine blk_alloc ?_ _)); exact BK186.out)) : gb186 ≠ gb200)); have n9_ := Aside0.mk ((by rw [hg]; exact Nat.ne_of_gt (blk_lt (g := gb186) (o := .cells #[.int .i64 a0_0, .int .u64 a0_1, .int .u64 a0_2, .int .i64 a0_3, .int .i64 a0_4] 37 (0, 0)) (by (with_reducible repeat (first | refine blk_drewN ?_ _ | refine blk_drew ?_ | refine blk_alloc ?_ _)); exact BK186.out)) : gb200 ≠ gb186)); have n10_ := Aside0.mk ((by rw [hg]; exact Nat.ne_of_lt (blk_lt (g := gb190) (o := .cells #[.int .i64 a1, .int .u64 (Int.tmod a2 3), .int .u64 (Int.tmod a3 3), .int .i64 t188, .int .i64 t189] 37 (0, 0)) (by (with_reducible repeat (first | refine blk_drewN ?_ _ | refine blk_drew ?_ | refine blk_alloc ?_ _)); exact BK190.out)) : gb190 ≠ gb200)); have n11_ := Aside0.mk ((by rw [hg]; exact Nat.ne_of_gt (blk_lt (g := gb190) (o := .cells #[.int .i64 a1, .int .u64 (Int.tmod a2 3), .int .u64 (Int.tmod a3 3), .int .i64 t188, .int .i64 t189] 37 (0, 0)) (by (with_reducible repeat (first | refine blk_drewN ?_ _ | refine blk_drew ?_ | refine blk_alloc ?_ _)); exact BK190.out)) : gb200 ≠ gb190)); clear HO_39; clear HO_47; clear BK186; clear BK190; clear HB; have HO_39 := n0_; have HO_47 := n1_; have BK186 := n2_; have BK190 := n3_; have HB := n4_; have BK200 := n5_; have GW200 := n6_; have GE200 := n7_; have NB186_200 := n8_; have NB200_186 := n9_; have NB190_200 := n10_; have NB200_190 := n11_; clear n0_ n1_ n2_ n3_ n4_ n5_ n6_ n7_ n8_ n9_ n10_ n11_; clear hb hbox hg; have hnb36 := NB200_186.out; have hnc36 := NB186_200.out; have hnb37 := NB200_190.out; have hnc37 := NB190_200.out; have hcz38_0 : w35.cell? ⟨gb200, 0, none⟩ = some (.int .i64 0) := (blk_cell BK200.out 0).trans rfl; have hcz38_1 : w35.cell? ⟨gb200, 1, none⟩ = some (.int .u64 0) := (blk_cell BK200.out 1).trans rfl; have hcz38_2 : w35.cell? ⟨gb200, 2, none⟩ = some (.int .u64 0) := (blk_cell BK200.out 2).trans rfl; have hcz38_3 : w35.cell? ⟨gb200, 3, none⟩ = some (.int .i64 0) := (blk_cell BK200.out 3).trans rfl; have hcz38_4 : w35.cell? ⟨gb200, 4, none⟩ = some (.int .i64 0) := (blk_cell BK200.out 4).trans rfl; have hfz38_0 := blk_frozen BK200.out 0; have hfz38_1 := blk_frozen BK200.out 1; have hfz38_2 := blk_frozen BK200.out 2; have hfz38_3 := blk_frozen BK200.out 3; have hfz38_4 := blk_frozen BK200.out 4))
                          have n0_ : Aside0 (Kd.R (Kd.int .i64) 3 (((((w35.setCell ⟨gb200, 0, none⟩ (.int .i64 ((rd_T37 y196 x49_2).f0))).setCell ⟨gb200, 1, none⟩ (.int .u64 ((rd_T37 y196 x49_2).f1))).setCell ⟨gb200, 2, none⟩ (.int .u64 ((rd_T37 y196 x49_2).f2))).setCell ⟨gb200, 3, none⟩ (.int .i64 ((rd_T37 y196 x49_2).f3))).setCell ⟨gb200, 4, none⟩ (.int .i64 ((rd_T37 y196 x49_2).f4))) w.heap.size (fun _ => True) (.slice (some ad195) y192.length co19) y192) := ⟨by (with_reducible repeat (first | apply Kd.R_alloc | apply Kd.R_drewN | apply Kd.R_drew)); exact Kd.R_mono (Kd.R_far (p := ⟨gb200, 4, none⟩) (Kd.R_far (p := ⟨gb200, 3, none⟩) (Kd.R_far (p := ⟨gb200, 2, none⟩) (Kd.R_far (p := ⟨gb200, 1, none⟩) (Kd.R_far (p := ⟨gb200, 0, none⟩) (Kd.R_types HO_39.out BK200.out (by decide)) (fun _ hk => hk.2) (.int .i64 ((rd_T37 y196 x49_2).f0))) (fun _ hk => hk.2) (.int .u64 ((rd_T37 y196 x49_2).f1))) (fun _ hk => hk.2) (.int .u64 ((rd_T37 y196 x49_2).f2))) (fun _ hk => hk.2) (.int .i64 ((rd_T37 y196 x49_2).f3))) (fun _ hk => hk.2) (.int .i64 ((rd_T37 y196 x49_2).f4))) (fun _ hk => trivial)⟩
                          have n1_ : Aside0 (Kd.R k37 37 (((((w35.setCell ⟨gb200, 0, none⟩ (.int .i64 ((rd_T37 y196 x49_2).f0))).setCell ⟨gb200, 1, none⟩ (.int .u64 ((rd_T37 y196 x49_2).f1))).setCell ⟨gb200, 2, none⟩ (.int .u64 ((rd_T37 y196 x49_2).f2))).setCell ⟨gb200, 3, none⟩ (.int .i64 ((rd_T37 y196 x49_2).f3))).setCell ⟨gb200, 4, none⟩ (.int .i64 ((rd_T37 y196 x49_2).f4))) w.heap.size (fun k_ => k_ ≠ gb186 ∧ k_ ≠ gb190 ∧ k_ ≠ gb200) (.slice (some ad199) y196.length co28) y196) := ⟨by (with_reducible repeat (first | apply Kd.R_alloc | apply Kd.R_drewN | apply Kd.R_drew)); exact Kd.R_mono (Kd.R_far (p := ⟨gb200, 4, none⟩) (Kd.R_far (p := ⟨gb200, 3, none⟩) (Kd.R_far (p := ⟨gb200, 2, none⟩) (Kd.R_far (p := ⟨gb200, 1, none⟩) (Kd.R_far (p := ⟨gb200, 0, none⟩) (Kd.R_mono HO_47.out (fun k_ hk => (⟨hk, hk.2⟩ : _ ∧ k_ ≠ gb200))) (fun _ hk => hk.2) (.int .i64 ((rd_T37 y196 x49_2).f0))) (fun _ hk => hk.2) (.int .u64 ((rd_T37 y196 x49_2).f1))) (fun _ hk => hk.2) (.int .u64 ((rd_T37 y196 x49_2).f2))) (fun _ hk => hk.2) (.int .i64 ((rd_T37 y196 x49_2).f3))) (fun _ hk => hk.2) (.int .i64 ((rd_T37 y196 x49_2).f4))) (fun _ hk => ⟨hk.1.1.1, ⟨hk.1.1.2, hk.1.2⟩⟩)⟩
                          have n2_ : Aside0 ((((((w35.setCell ⟨gb200, 0, none⟩ (.int .i64 ((rd_T37 y196 x49_2).f0))).setCell ⟨gb200, 1, none⟩ (.int .u64 ((rd_T37 y196 x49_2).f1))).setCell ⟨gb200, 2, none⟩ (.int .u64 ((rd_T37 y196 x49_2).f2))).setCell ⟨gb200, 3, none⟩ (.int .i64 ((rd_T37 y196 x49_2).f3))).setCell ⟨gb200, 4, none⟩ (.int .i64 ((rd_T37 y196 x49_2).f4))).heap[gb186]? = some (.cells #[.int .i64 a0_0, .int .u64 a0_1, .int .u64 a0_2, .int .i64 a0_3, .int .i64 a0_4] 37 (0, 0))) := ⟨by (with_reducible repeat (first | refine blk_drewN ?_ _ | refine blk_drew ?_ | refine blk_alloc ?_ _)); refine blk_far ?_ NB186_200.out _; (with_reducible repeat (first | refine blk_drewN ?_ _ | refine blk_drew ?_ | refine blk_alloc ?_ _)); refine blk_far ?_ NB186_200.out _; (with_reducible repeat (first | refine blk_drewN ?_ _ | refine blk_drew ?_ | refine blk_alloc ?_ _)); refine blk_far ?_ NB186_200.out _; (with_reducible repeat (first | refine blk_drewN ?_ _ | refine blk_drew ?_ | refine blk_alloc ?_ _)); refine blk_far ?_ NB186_200.out _; (with_reducible repeat (first | refine blk_drewN ?_ _ | refine blk_drew ?_ | refine blk_alloc ?_ _)); refine blk_far ?_ NB186_200.out _; (with_reducible repeat (first | refine blk_drewN ?_ _ | refine blk_drew ?_ | refine blk_alloc ?_ _)); exact BK186.out⟩
                          have n3_ : Aside0 ((((((w35.setCell ⟨gb200, 0, none⟩ (.int .i64 ((rd_T37 y196 x49_2).f0))).setCell ⟨gb200, 1, none⟩ (.int .u64 ((rd_T37 y196 x49_2).f1))).setCell ⟨gb200, 2, none⟩ (.int .u64 ((rd_T37 y196 x49_2).f2))).setCell ⟨gb200, 3, none⟩ (.int .i64 ((rd_T37 y196 x49_2).f3))).setCell ⟨gb200, 4, none⟩ (.int .i64 ((rd_T37 y196 x49_2).f4))).heap[gb190]? = some (.cells #[.int .i64 a1, .int .u64 (Int.tmod a2 3), .int .u64 (Int.tmod a3 3), .int .i64 t188, .int .i64 t189] 37 (0, 0))) := ⟨by (with_reducible repeat (first | refine blk_drewN ?_ _ | refine blk_drew ?_ | refine blk_alloc ?_ _)); refine blk_far ?_ NB190_200.out _; (with_reducible repeat (first | refine blk_drewN ?_ _ | refine blk_drew ?_ | refine blk_alloc ?_ _)); refine blk_far ?_ NB190_200.out _; (with_reducible repeat (first | refine blk_drewN ?_ _ | refine blk_drew ?_ | refine blk_alloc ?_ _)); refine blk_far ?_ NB190_200.out _; (with_reducible repeat (first | refine blk_drewN ?_ _ | refine blk_drew ?_ | refine blk_alloc ?_ _)); refine blk_far ?_ NB190_200.out _; (with_reducible repeat (first | refine blk_drewN ?_ _ | refine blk_drew ?_ | refine blk_alloc ?_ _)); refine blk_far ?_ NB190_200.out _; (with_reducible repeat (first | refine blk_drewN ?_ _ | refine blk_drew ?_ | refine blk_alloc ?_ _)); exact BK190.out⟩
                          have n4_ : Aside0 ((((((w35.setCell ⟨gb200, 0, none⟩ (.int .i64 ((rd_T37 y196 x49_2).f0))).setCell ⟨gb200, 1, none⟩ (.int .u64 ((rd_T37 y196 x49_2).f1))).setCell ⟨gb200, 2, none⟩ (.int .u64 ((rd_T37 y196 x49_2).f2))).setCell ⟨gb200, 3, none⟩ (.int .i64 ((rd_T37 y196 x49_2).f3))).setCell ⟨gb200, 4, none⟩ (.int .i64 ((rd_T37 y196 x49_2).f4))).heap[gb200]? = some (.cells #[.int .i64 ((rd_T37 y196 x49_2).f0), .int .u64 ((rd_T37 y196 x49_2).f1), .int .u64 ((rd_T37 y196 x49_2).f2), .int .i64 ((rd_T37 y196 x49_2).f3), .int .i64 ((rd_T37 y196 x49_2).f4)] 37 (0, 0))) := ⟨by (with_reducible repeat (first | refine blk_drewN ?_ _ | refine blk_drew ?_ | refine blk_alloc ?_ _)); refine blk_put (cs := #[.int .i64 ((rd_T37 y196 x49_2).f0), .int .u64 ((rd_T37 y196 x49_2).f1), .int .u64 ((rd_T37 y196 x49_2).f2), .int .i64 ((rd_T37 y196 x49_2).f3), .int .i64 0]) ?_ 4 _ rfl; (with_reducible repeat (first | refine blk_drewN ?_ _ | refine blk_drew ?_ | refine blk_alloc ?_ _)); refine blk_put (cs := #[.int .i64 ((rd_T37 y196 x49_2).f0), .int .u64 ((rd_T37 y196 x49_2).f1), .int .u64 ((rd_T37 y196 x49_2).f2), .int .i64 0, .int .i64 0]) ?_ 3 _ rfl; (with_reducible repeat (first | refine blk_drewN ?_ _ | refine blk_drew ?_ | refine blk_alloc ?_ _)); refine blk_put (cs := #[.int .i64 ((rd_T37 y196 x49_2).f0), .int .u64 ((rd_T37 y196 x49_2).f1), .int .u64 0, .int .i64 0, .int .i64 0]) ?_ 2 _ rfl; (with_reducible repeat (first | refine blk_drewN ?_ _ | refine blk_drew ?_ | refine blk_alloc ?_ _)); refine blk_put (cs := #[.int .i64 ((rd_T37 y196 x49_2).f0), .int .u64 0, .int .u64 0, .int .i64 0, .int .i64 0]) ?_ 1 _ rfl; (with_reducible repeat (first | refine blk_drewN ?_ _ | refine blk_drew ?_ | refine blk_alloc ?_ _)); refine blk_put (cs := #[.int .i64 0, .int .u64 0, .int .u64 0, .int .i64 0, .int .i64 0]) ?_ 0 _ rfl; (with_reducible repeat (first | refine blk_drewN ?_ _ | refine blk_drew ?_ | refine blk_alloc ?_ _)); exact BK200.out⟩
                          have n5_ : Aside0 (Below w.heap.size w (((((w35.setCell ⟨gb200, 0, none⟩ (.int .i64 ((rd_T37 y196 x49_2).f0))).setCell ⟨gb200, 1, none⟩ (.int .u64 ((rd_T37 y196 x49_2).f1))).setCell ⟨gb200, 2, none⟩ (.int .u64 ((rd_T37 y196 x49_2).f2))).setCell ⟨gb200, 3, none⟩ (.int .i64 ((rd_T37 y196 x49_2).f3))).setCell ⟨gb200, 4, none⟩ (.int .i64 ((rd_T37 y196 x49_2).f4)))) := ⟨by repeat (first | (with_reducible first | exact HB.out | apply below_alloc | apply pw_below_drewN | apply below_drew1 | refine below_set ?_ GE186.out | refine below_set ?_ GE190.out | refine below_set ?_ GE200.out) | exact HB.out)⟩
                          (try clear HO_39)
                          (try clear HO_47)
                          (try clear BK186)
                          (try clear BK190)
                          (try clear BK200)
                          (try clear HB)
                          generalize (((((w35.setCell ⟨gb200, 0, none⟩ (.int .i64 ((rd_T37 y196 x49_2).f0))).setCell ⟨gb200, 1, none⟩ (.int .u64 ((rd_T37 y196 x49_2).f1))).setCell ⟨gb200, 2, none⟩ (.int .u64 ((rd_T37 y196 x49_2).f2))).setCell ⟨gb200, 3, none⟩ (.int .i64 ((rd_T37 y196 x49_2).f3))).setCell ⟨gb200, 4, none⟩ (.int .i64 ((rd_T37 y196 x49_2).f4))) = w39 at n0_ n1_ n2_ n3_ n4_ n5_ ⊢
                          have HO_39 := n0_
                          have HO_47 := n1_
                          have BK186 := n2_
                          have BK190 := n3_
                          have BK200 := n4_
                          have HB := n5_
                          clear n0_ n1_ n2_ n3_ n4_ n5_
                          have n0_ := Aside0.mk (Kd.R_drew HO_39.out)
                          have n1_ := Aside0.mk (Kd.R_drew HO_47.out)
                          have n2_ := Aside0.mk (blk_drew BK186.out)
                          have n3_ := Aside0.mk (blk_drew BK190.out)
                          have n4_ := Aside0.mk (blk_drew BK200.out)
                          have n5_ := Aside0.mk (below_drew1 HB.out)
                          clear HO_39
                          clear HO_47
                          clear BK186
                          clear BK190
                          clear BK200
                          clear HB
                          have HO_39 := n0_
                          have HO_47 := n1_
                          have BK186 := n2_
                          have BK190 := n3_
                          have BK200 := n4_
                          have HB := n5_
                          clear n0_ n1_ n2_ n3_ n4_ n5_
                          refine start_ (n := 7) (S := fun w' => w'.cell? ⟨gb200, 0, none⟩ = some (.int .i64 ((rd_T37 y196 x49_2).f0)) ∧ w'.cell? ⟨gb200, 1, none⟩ = some (.int .u64 ((rd_T37 y196 x49_2).f1)) ∧ w'.cell? ⟨gb200, 2, none⟩ = some (.int .u64 ((rd_T37 y196 x49_2).f2)) ∧ w'.cell? ⟨gb200, 3, none⟩ = some (.int .i64 ((rd_T37 y196 x49_2).f3)) ∧ w'.cell? ⟨gb200, 4, none⟩ = some (.int .i64 ((rd_T37 y196 x49_2).f4))) (ds := []) #[false, false, false, false, false, false, false] (by kernel_rfl) rfl rfl ⟨(blk_cell BK200.out 0).trans rfl, (blk_cell BK200.out 1).trans rfl, (blk_cell BK200.out 2).trans rfl, (blk_cell BK200.out 3).trans rfl, (blk_cell BK200.out 4).trans rfl⟩ (fun hHeld => ?_)
                          generalize w39.drew = w40 at HO_39 HO_47 BK186 BK190 BK200 HB hHeld ⊢
                          refine pure_ (i := 1) (N := some 54) (v := ?_) (a' := ?_) #[false, true, false, false, false, false, false] rfl rfl (by kernel_rfl) (fun _ _ _ h => h) (Or.inl ⟨by rfl, ?_⟩) ?_ ?_
                          rotate_left
                          · intro w'
                            go_simp
                            with_reducible rfl
                          rotate_left
                          · simp only [Act.put, List.setIfInBounds_toArray, List.set_cons_zero, List.set_cons_succ, i64_w, i32_w]
                            rfl
                          refine pure_ (i := 4) (N := some 57) (v := ?_) (a' := ?_) #[false, true, false, false, true, false, false] rfl rfl (by kernel_rfl) (fun _ _ _ h => h) (Or.inl ⟨by rfl, ?_⟩) ?_ ?_
                          rotate_left
                          · intro w'
                            go_simp
                            with_reducible rfl
                          rotate_left
                          · simp only [Act.put, List.setIfInBounds_toArray, List.set_cons_zero, List.set_cons_succ, i64_w, i32_w]
                            rfl
                          refine take_ (i := 0) (N := some 53) (v := ?_) (a' := ?_) #[true, true, false, false, true, false, false] rfl rfl (by kernel_rfl) (fun _ _ _ h => h) (Or.inl ⟨by rfl, ?_⟩) hHeld ?_ ?_
                          rotate_left
                          · rintro w' ⟨s0, s1, s2, s3, s4⟩
                            go_simp
                            with_reducible rfl
                          rotate_left
                          · simp only [Act.put, List.setIfInBounds_toArray, List.set_cons_zero, List.set_cons_succ, i64_w, i32_w]
                            rfl
                          refine take_ (i := 3) (N := some 56) (v := ?_) (a' := ?_) #[true, true, false, true, true, false, false] rfl rfl (by kernel_rfl) (fun _ _ _ h => h) (Or.inl ⟨by rfl, ?_⟩) hHeld ?_ ?_
                          rotate_left
                          · rintro w' ⟨s0, s1, s2, s3, s4⟩
                            go_simp
                            with_reducible rfl
                          rotate_left
                          · simp only [Act.put, List.setIfInBounds_toArray, List.set_cons_zero, List.set_cons_succ, i64_w, i32_w]
                            rfl
                          refine one_ (i := 2) (N := some 55) #[true, true, true, true, true, false, false] rfl rfl (by kernel_rfl) (by decide) (fun K hK => ?_)
                          refine goes_ Try.func21 (by kernel_rfl) rfl #[.agg #[.int .i64 ((rd_T37 y196 x49_2).f0), .int .u64 ((rd_T37 y196 x49_2).f1), .int .u64 ((rd_T37 y196 x49_2).f2), .int .i64 ((rd_T37 y196 x49_2).f3), .int .i64 ((rd_T37 y196 x49_2).f4)], .int .i64 (rd y192 x41_1)] (by rfl) rfl rfl (by (try simp only [List.map_toArray, List.map_cons, List.map_nil]); first | done | rfl | (simp only [List.length_drop, List.length_take]; rfl)) ?_
                          with_reducible refine (plug_Advance.calls k2 ((rd_T37 y196 x49_2).f0) ((rd_T37 y196 x49_2).f1) ((rd_T37 y196 x49_2).f2) ((rd_T37 y196 x49_2).f3) ((rd_T37 y196 x49_2).f4) (rd y192 x41_1) t201 t202 t203 t204 t205 _ A32.out).mono ?_
                          rintro e w41 ⟨rfl, hb⟩
                          refine ⟨_, rfl, ?_⟩
                          have n0_ := Aside0.mk (Kd.R_below (by (with_reducible repeat (first | apply Kd.R_alloc | apply Kd.R_drewN | apply Kd.R_drew)); exact HO_39.out) hb)
                          have n1_ := Aside0.mk (Kd.R_below (by (with_reducible repeat (first | apply Kd.R_alloc | apply Kd.R_drewN | apply Kd.R_drew)); exact HO_47.out) hb)
                          have n2_ := Aside0.mk (blk_below (g := gb186) (o := .cells #[.int .i64 a0_0, .int .u64 a0_1, .int .u64 a0_2, .int .i64 a0_3, .int .i64 a0_4] 37 (0, 0)) (by (with_reducible repeat (first | refine blk_drewN ?_ _ | refine blk_drew ?_ | refine blk_alloc ?_ _)); exact BK186.out) hb)
                          have n3_ := Aside0.mk (blk_below (g := gb190) (o := .cells #[.int .i64 a1, .int .u64 (Int.tmod a2 3), .int .u64 (Int.tmod a3 3), .int .i64 t188, .int .i64 t189] 37 (0, 0)) (by (with_reducible repeat (first | refine blk_drewN ?_ _ | refine blk_drew ?_ | refine blk_alloc ?_ _)); exact BK190.out) hb)
                          have n4_ := Aside0.mk (blk_below (g := gb200) (o := .cells #[.int .i64 ((rd_T37 y196 x49_2).f0), .int .u64 ((rd_T37 y196 x49_2).f1), .int .u64 ((rd_T37 y196 x49_2).f2), .int .i64 ((rd_T37 y196 x49_2).f3), .int .i64 ((rd_T37 y196 x49_2).f4)] 37 (0, 0)) (by (with_reducible repeat (first | refine blk_drewN ?_ _ | refine blk_drew ?_ | refine blk_alloc ?_ _)); exact BK200.out) hb)
                          have n5_ := Aside0.mk (below_step (by repeat (first | (with_reducible first | exact HB.out | apply below_alloc | apply pw_below_drewN | apply below_drew1 | refine below_set ?_ GE186.out | refine below_set ?_ GE190.out | refine below_set ?_ GE200.out) | exact HB.out)) hb)
                          clear HO_39
                          clear HO_47
                          clear BK186
                          clear BK190
                          clear BK200
                          clear HB
                          have HO_39 := n0_
                          have HO_47 := n1_
                          have BK186 := n2_
                          have BK190 := n3_
                          have BK200 := n4_
                          have HB := n5_
                          clear n0_ n1_ n2_ n3_ n4_ n5_
                          (try clear hb)
                          (try clear hb2)
                          (try clear hk)
                          (try clear hi)
                          refine hK.out _ _ ⟨(blk_cell BK200.out 0).trans rfl, (blk_cell BK200.out 1).trans rfl, (blk_cell BK200.out 2).trans rfl, (blk_cell BK200.out 3).trans rfl, (blk_cell BK200.out 4).trans rfl⟩ (fun hHeld => ?_)
                          clear hK K
                          refine norm_ (a' := ?_) ?_ ?_
                          rotate_left
                          · show Act.put _ (some 55) _ = _
                            simp only [Act.put, List.setIfInBounds_toArray, List.set_cons_zero, List.set_cons_succ, i64_w, i32_w]
                            rfl
                          refine one_ (i := 5) (N := some 58) #[true, true, true, true, true, true, false] rfl rfl (by kernel_rfl) (by decide) (fun K hK => ?_)
                          refine goes_ Try.func22 (by kernel_rfl) rfl #[.agg #[.int .i64 ((rd_T37 y196 x49_2).f0), .int .u64 ((rd_T37 y196 x49_2).f1), .int .u64 ((rd_T37 y196 x49_2).f2), .int .i64 ((rd_T37 y196 x49_2).f3), .int .i64 ((rd_T37 y196 x49_2).f4)], .int .i64 (rd y192 x41_1)] (by rfl) rfl rfl (by (try simp only [List.map_toArray, List.map_cons, List.map_nil]); first | done | rfl | (simp only [List.length_drop, List.length_take]; rfl)) ?_
                          with_reducible refine (soundserviceref33_Advance.calls k2 ((rd_T37 y196 x49_2).f0) ((rd_T37 y196 x49_2).f1) ((rd_T37 y196 x49_2).f2) ((rd_T37 y196 x49_2).f3) ((rd_T37 y196 x49_2).f4) (rd y192 x41_1) t206 t207 t208 t209 t210 _ A33.out).mono ?_
                          rintro e w42 ⟨rfl, hb⟩
                          refine ⟨_, rfl, ?_⟩
                          have n0_ := Aside0.mk (Kd.R_below (by (with_reducible repeat (first | apply Kd.R_alloc | apply Kd.R_drewN | apply Kd.R_drew)); exact HO_39.out) hb)
                          have n1_ := Aside0.mk (Kd.R_below (by (with_reducible repeat (first | apply Kd.R_alloc | apply Kd.R_drewN | apply Kd.R_drew)); exact HO_47.out) hb)
                          have n2_ := Aside0.mk (blk_below (g := gb186) (o := .cells #[.int .i64 a0_0, .int .u64 a0_1, .int .u64 a0_2, .int .i64 a0_3, .int .i64 a0_4] 37 (0, 0)) (by (with_reducible repeat (first | refine blk_drewN ?_ _ | refine blk_drew ?_ | refine blk_alloc ?_ _)); exact BK186.out) hb)
                          have n3_ := Aside0.mk (blk_below (g := gb190) (o := .cells #[.int .i64 a1, .int .u64 (Int.tmod a2 3), .int .u64 (Int.tmod a3 3), .int .i64 t188, .int .i64 t189] 37 (0, 0)) (by (with_reducible repeat (first | refine blk_drewN ?_ _ | refine blk_drew ?_ | refine blk_alloc ?_ _)); exact BK190.out) hb)
                          have n4_ := Aside0.mk (blk_below (g := gb200) (o := .cells #[.int .i64 ((rd_T37 y196 x49_2).f0), .int .u64 ((rd_T37 y196 x49_2).f1), .int .u64 ((rd_T37 y196 x49_2).f2), .int .i64 ((rd_T37 y196 x49_2).f3), .int .i64 ((rd_T37 y196 x49_2).f4)] 37 (0, 0)) (by (with_reducible repeat (first | refine blk_drewN ?_ _ | refine blk_drew ?_ | refine blk_alloc ?_ _)); exact BK200.out) hb)
                          have n5_ := Aside0.mk (below_step (by repeat (first | (with_reducible first | exact HB.out | apply below_alloc | apply pw_below_drewN | apply below_drew1 | refine below_set ?_ GE186.out | refine below_set ?_ GE190.out | refine below_set ?_ GE200.out) | exact HB.out)) hb)
                          clear HO_39
                          clear HO_47
                          clear BK186
                          clear BK190
                          clear BK200
                          clear HB
                          have HO_39 := n0_
                          have HO_47 := n1_
                          have BK186 := n2_
                          have BK190 := n3_
                          have BK200 := n4_
                          have HB := n5_
                          clear n0_ n1_ n2_ n3_ n4_ n5_
                          (try clear hb)
                          (try clear hb2)
                          (try clear hk)
                          (try clear hi)
                          refine hK.out _ _ ⟨(blk_cell BK200.out 0).trans rfl, (blk_cell BK200.out 1).trans rfl, (blk_cell BK200.out 2).trans rfl, (blk_cell BK200.out 3).trans rfl, (blk_cell BK200.out 4).trans rfl⟩ (fun hHeld => ?_)
                          clear hK K
                          refine norm_ (a' := ?_) ?_ ?_
                          rotate_left
                          · show Act.put _ (some 58) _ = _
                            simp only [Act.put, List.setIfInBounds_toArray, List.set_cons_zero, List.set_cons_succ, i64_w, i32_w]
                            rfl
                          refine pure_ (i := 6) (N := some 59) (v := ?_) (a' := ?_) #[true, true, true, true, true, true, true] rfl rfl (by kernel_rfl) (fun _ _ _ h => h) (Or.inl ⟨by rfl, ?_⟩) ?_ ?_
                          rotate_left
                          · intro w'
                            go_simp
                            with_reducible rfl
                          rotate_left
                          · simp only [Act.put, List.setIfInBounds_toArray, List.set_cons_zero, List.set_cons_succ, i64_w, i32_w]
                            rfl
                          refine done_ (by kernel_rfl) ?_
                          try go_wp2
                          go_ret
                          exact ⟨by first | rfl | (simp [errW_none, errW_some] <;> rfl) | (simp [*, errW_none, errW_some] <;> rfl), by repeat (first | (with_reducible first | exact HB.out | apply below_alloc | apply pw_below_drewN | apply below_drew1 | refine below_set ?_ GE186.out | refine below_set ?_ GE190.out | refine below_set ?_ GE200.out) | exact HB.out)⟩
                        · rw [if_neg c34] at H
                          have c34b0 : (!(t201 == t206) || (!(t202 == t207) || (!(t203 == t208) || (!(t204 == t209) || (!(t205 == t210)))))) = false := by simpa using c34
                          clear c34
                          replace H := Option.bind_eq_some_iff.mp H
                          obtain ⟨⟨t211, t212⟩, A430, H⟩ := H
                          replace H : ((soundserviceref33_Wanted.f ((rd_T37 y196 x49_2).f0) ((rd_T37 y196 x49_2).f1) ((rd_T37 y196 x49_2).f2) ((rd_T37 y196 x49_2).f3) ((rd_T37 y196 x49_2).f4)).bind fun bt213 => (if t211 = bt213.1 then (if (t212 != bt213.2) = true then (some false) else (soundservicelaw33_PlugMoves.l1 k2 a1 a2 a3 (rd y192 x41_1) y192 (y192.length : Int) x41_1 y196 (y196.length : Int) (wrap64 (x49_2 + 1)) a0_0 a0_1 a0_2 a0_3 a0_4 a1 (Int.tmod a2 3) (Int.tmod a3 3) t188 t189)) else (some false))) = some r := H
                          have A43 := Aside0.mk A430
                          clear A430
                          replace H := Option.bind_eq_some_iff.mp H
                          obtain ⟨⟨t213, t214⟩, A440, H⟩ := H
                          replace H : (if t211 = t213 then (if (t212 != t214) = true then (some false) else (soundservicelaw33_PlugMoves.l1 k2 a1 a2 a3 (rd y192 x41_1) y192 (y192.length : Int) x41_1 y196 (y196.length : Int) (wrap64 (x49_2 + 1)) a0_0 a0_1 a0_2 a0_3 a0_4 a1 (Int.tmod a2 3) (Int.tmod a3 3) t188 t189)) else (some false)) = some r := H
                          have A44 := Aside0.mk A440
                          clear A440
                          by_cases c45 : t211 = t213
                          · rw [if_pos c45] at H
                            have c45b0 : (t211 == t213) = true := beq_iff_eq.mpr c45
                            have c45b1 : (t211 != t213) = false := bne_eq_false_iff_eq.mpr c45
                            clear c45
                            by_cases c46 : (t212 != t214) = true
                            · rw [if_pos c46] at H
                              have c46b0 : (t212 != t214) = true := c46
                              (try (have c46b1 : decide (t212 = t214) = false := by simpa using c46))
                              (try (have c46b2 : (t212 == t214) = false := by simpa using c46))
                              (try (have c46b3 : ¬ (t212 = t214) := by simpa using c46))
                              clear c46
                              obtain rfl := Option.some.inj H
                              have p199 : 0 ≤ (x49_2 : Int) := of_decide_eq_true (by first | (with_reducible assumption) | assumption)
                              have q199 : x49_2 < (y196.length : Int) := of_decide_eq_true (by first | (with_reducible assumption) | assumption)
                              obtain ⟨ad199, e199, hx199_0, hx199_1, hx199_2, hx199_3, hx199_4⟩ := at_T37 (Kd.R_reads' HO_47.out).2.2 x49_2 p199 q199
                              cases e199
                              replace p199 := eq_true p199
                              replace q199 := eq_true q199
                              try go_wp2_with (first | ((with_reducible refine gate_dst (N := 17) rfl ?_); refine box_event ?hg (N := 17) ?hd (cs := #[.int .i64 0, .int .u64 0, .int .u64 0, .int .i64 0, .int .i64 0]) (t := 37) ?hr ?_; (case hd => rfl); (case hg => rfl); (case hr => first | (go_simp; done) | (go_simp; rfl)); intro gb200 hg w47 hbox hb; have n0_ := Aside0.mk (Kd.R_below (by (with_reducible repeat (first | apply Kd.R_alloc | apply Kd.R_drewN | apply Kd.R_drew)); exact HO_39.out) hb); have n1_ := Aside0.mk (Kd.R_below (Kd.R_elderB (by (with_reducible repeat (first | apply Kd.R_alloc | apply Kd.R_drewN | apply Kd.R_drew)); exact HO_47.out) gb200 (Nat.le_of_eq hg.symm)) hb); have n2_ := Aside0.mk (blk_below (g := gb186) (o := .cells #[.int .i64 a0_0, .int .u64 a0_1, .int .u64 a0_2, .int .i64 a0_3, .int .i64 a0_4] 37 (0, 0)) (by (with_reducible repeat (first | refine blk_drewN ?_ _ | refine blk_drew ?_ | refine blk_alloc ?_ _)); exact BK186.out) hb); have n3_ := Aside0.mk (blk_below (g := gb190) (o := .cells #[.int .i64 a1, .int .u64 (Int.tmod a2 3), .int .u64 (Int.tmod a3 3), .int .i64 t188, .int .i64 t189] 37 (0, 0)) (by (with_reducible repeat (first | refine blk_drewN ?_ _ | refine blk_drew ?_ | refine blk_alloc ?_ _)); exact BK190.out) hb); have n4_ := Aside0.mk (below_step (by repeat (first | (with_reducible first | exact HB.out | apply below_alloc | apply pw_below_drewN | apply below_drew1 | refine below_set ?_ GE186.out | refine below_set ?_ GE190.out) | exact HB.out)) hb); have n5_ := Aside0.mk (hbox); have n6_ := Aside0.mk ((by rw [hg]; exact (below_size (by repeat (first | (with_reducible first | exact HB.out | apply below_alloc | apply pw_below_drewN | apply below_drew1 | refine below_set ?_ GE186.out | refine below_set ?_ GE190.out) | exact HB.out))) : w.heap.size ≤ gb200)); have n7_ := Aside0.mk ((by rw [hg]; exact (below_size (by repeat (first | (with_reducible first | exact HB.out | apply below_alloc | apply pw_below_drewN | apply below_drew1 | refine below_set ?_ GE186.out | refine below_set ?_ GE190.out) | exact HB.out))) : w.heap.size ≤ gb200)); have n8_ := Aside0.mk ((by rw [hg]; exact Nat.ne_of_lt (blk_lt (g := gb186) (o := .cells #[.int .i64 a0_0, .int .u64 a0_1, .int .u64 a0_2, .int .i64 a0_3, .int .i64 a0_4] 37 (0, 0)) (by (with_reducible repeat (first | refine blk_drewN ?_ _ | refine blk_drew ?_ | refine blk_alloc ?_ _)); exact BK186.out)) : gb186 ≠ gb200)); have n9_ := Aside0.mk ((by rw [hg]; exact Nat.ne_of_gt (blk_lt (g := gb186) (o := .cells #[.int .i64 a0_0, .int .u64 a0_1, .int .u64 a0_2, .int .i64 a0_3, .int .i64 a0_4] 37 (0, 0)) (by (with_reducible repeat (first | refine blk_drewN ?_ _ | refine blk_drew ?_ | refine blk_alloc ?_ _)); exact BK186.out)) : gb200 ≠ gb186)); have n10_ := Aside0.mk ((by rw [hg]; exact Nat.ne_of_lt (blk_lt (g := gb190) (o := .cells #[.int .i64 a1, .int .u64 (Int.tmod a2 3), .int .u64 (Int.tmod a3 3), .int .i64 t188, .int .i64 t189] 37 (0, 0)) (by (with_reducible repeat (first | refine blk_drewN ?_ _ | refine blk_drew ?_ | refine blk_alloc ?_ _)); exact BK190.out)) : gb190 ≠ gb200)); have n11_ := Aside0.mk ((by rw [hg]; exact Nat.ne_of_gt (blk_lt (g := gb190) (o := .cells #[.int .i64 a1, .int .u64 (Int.tmod a2 3), .int .u64 (Int.tmod a3 3), .int .i64 t188, .int .i64 t189] 37 (0, 0)) (by (with_reducible repeat (first | refine blk_drewN ?_ _ | refine blk_drew ?_ | refine blk_alloc ?_ _)); exact BK190.out)) : gb200 ≠ gb190)); clear HO_39; clear HO_47; clear BK186; clear BK190; clear HB; have HO_39 := n0_; have HO_47 := n1_; have BK186 := n2_; have BK190 := n3_; have HB := n4_; have BK200 := n5_; have GW200 := n6_; have GE200 := n7_; have NB186_200 := n8_; have NB200_186 := n9_; have NB190_200 := n10_; have NB200_190 := n11_; clear n0_ n1_ n2_ n3_ n4_ n5_ n6_ n7_ n8_ n9_ n10_ n11_; clear hb hbox hg; have hnb48 := NB200_186.out; have hnc48 := NB186_200.out; have hnb49 := NB200_190.out; have hnc49 := NB190_200.out; have hcz50_0 : w47.cell? ⟨gb200, 0, none⟩ = some (.int .i64 0) := (blk_cell BK200.out 0).trans rfl; have hcz50_1 : w47.cell? ⟨gb200, 1, none⟩ = some (.int .u64 0) := (blk_cell BK200.out 1).trans rfl; have hcz50_2 : w47.cell? ⟨gb200, 2, none⟩ = some (.int .u64 0) := (blk_cell BK200.out 2).trans rfl; have hcz50_3 : w47.cell? ⟨gb200, 3, none⟩ = some (.int .i64 0) := (blk_cell BK200.out 3).trans rfl; have hcz50_4 : w47.cell? ⟨gb200, 4, none⟩ = some (.int .i64 0) := (blk_cell BK200.out 4).trans rfl; have hfz50_0 := blk_frozen BK200.out 0; have hfz50_1 := blk_frozen BK200.out 1; have hfz50_2 := blk_frozen BK200.out 2; have hfz50_3 := blk_frozen BK200.out 3; have hfz50_4 := blk_frozen BK200.out 4))
                              have n0_ : Aside0 (Kd.R (Kd.int .i64) 3 (((((w47.setCell ⟨gb200, 0, none⟩ (.int .i64 ((rd_T37 y196 x49_2).f0))).setCell ⟨gb200, 1, none⟩ (.int .u64 ((rd_T37 y196 x49_2).f1))).setCell ⟨gb200, 2, none⟩ (.int .u64 ((rd_T37 y196 x49_2).f2))).setCell ⟨gb200, 3, none⟩ (.int .i64 ((rd_T37 y196 x49_2).f3))).setCell ⟨gb200, 4, none⟩ (.int .i64 ((rd_T37 y196 x49_2).f4))) w.heap.size (fun _ => True) (.slice (some ad195) y192.length co19) y192) := ⟨by (with_reducible repeat (first | apply Kd.R_alloc | apply Kd.R_drewN | apply Kd.R_drew)); exact Kd.R_mono (Kd.R_far (p := ⟨gb200, 4, none⟩) (Kd.R_far (p := ⟨gb200, 3, none⟩) (Kd.R_far (p := ⟨gb200, 2, none⟩) (Kd.R_far (p := ⟨gb200, 1, none⟩) (Kd.R_far (p := ⟨gb200, 0, none⟩) (Kd.R_types HO_39.out BK200.out (by decide)) (fun _ hk => hk.2) (.int .i64 ((rd_T37 y196 x49_2).f0))) (fun _ hk => hk.2) (.int .u64 ((rd_T37 y196 x49_2).f1))) (fun _ hk => hk.2) (.int .u64 ((rd_T37 y196 x49_2).f2))) (fun _ hk => hk.2) (.int .i64 ((rd_T37 y196 x49_2).f3))) (fun _ hk => hk.2) (.int .i64 ((rd_T37 y196 x49_2).f4))) (fun _ hk => trivial)⟩
                              have n1_ : Aside0 (Kd.R k37 37 (((((w47.setCell ⟨gb200, 0, none⟩ (.int .i64 ((rd_T37 y196 x49_2).f0))).setCell ⟨gb200, 1, none⟩ (.int .u64 ((rd_T37 y196 x49_2).f1))).setCell ⟨gb200, 2, none⟩ (.int .u64 ((rd_T37 y196 x49_2).f2))).setCell ⟨gb200, 3, none⟩ (.int .i64 ((rd_T37 y196 x49_2).f3))).setCell ⟨gb200, 4, none⟩ (.int .i64 ((rd_T37 y196 x49_2).f4))) w.heap.size (fun k_ => k_ ≠ gb186 ∧ k_ ≠ gb190 ∧ k_ ≠ gb200) (.slice (some ad199) y196.length co28) y196) := ⟨by (with_reducible repeat (first | apply Kd.R_alloc | apply Kd.R_drewN | apply Kd.R_drew)); exact Kd.R_mono (Kd.R_far (p := ⟨gb200, 4, none⟩) (Kd.R_far (p := ⟨gb200, 3, none⟩) (Kd.R_far (p := ⟨gb200, 2, none⟩) (Kd.R_far (p := ⟨gb200, 1, none⟩) (Kd.R_far (p := ⟨gb200, 0, none⟩) (Kd.R_mono HO_47.out (fun k_ hk => (⟨hk, hk.2⟩ : _ ∧ k_ ≠ gb200))) (fun _ hk => hk.2) (.int .i64 ((rd_T37 y196 x49_2).f0))) (fun _ hk => hk.2) (.int .u64 ((rd_T37 y196 x49_2).f1))) (fun _ hk => hk.2) (.int .u64 ((rd_T37 y196 x49_2).f2))) (fun _ hk => hk.2) (.int .i64 ((rd_T37 y196 x49_2).f3))) (fun _ hk => hk.2) (.int .i64 ((rd_T37 y196 x49_2).f4))) (fun _ hk => ⟨hk.1.1.1, ⟨hk.1.1.2, hk.1.2⟩⟩)⟩
                              have n2_ : Aside0 ((((((w47.setCell ⟨gb200, 0, none⟩ (.int .i64 ((rd_T37 y196 x49_2).f0))).setCell ⟨gb200, 1, none⟩ (.int .u64 ((rd_T37 y196 x49_2).f1))).setCell ⟨gb200, 2, none⟩ (.int .u64 ((rd_T37 y196 x49_2).f2))).setCell ⟨gb200, 3, none⟩ (.int .i64 ((rd_T37 y196 x49_2).f3))).setCell ⟨gb200, 4, none⟩ (.int .i64 ((rd_T37 y196 x49_2).f4))).heap[gb186]? = some (.cells #[.int .i64 a0_0, .int .u64 a0_1, .int .u64 a0_2, .int .i64 a0_3, .int .i64 a0_4] 37 (0, 0))) := ⟨by (with_reducible repeat (first | refine blk_drewN ?_ _ | refine blk_drew ?_ | refine blk_alloc ?_ _)); refine blk_far ?_ NB186_200.out _; (with_reducible repeat (first | refine blk_drewN ?_ _ | refine blk_drew ?_ | refine blk_alloc ?_ _)); refine blk_far ?_ NB186_200.out _; (with_reducible repeat (first | refine blk_drewN ?_ _ | refine blk_drew ?_ | refine blk_alloc ?_ _)); refine blk_far ?_ NB186_200.out _; (with_reducible repeat (first | refine blk_drewN ?_ _ | refine blk_drew ?_ | refine blk_alloc ?_ _)); refine blk_far ?_ NB186_200.out _; (with_reducible repeat (first | refine blk_drewN ?_ _ | refine blk_drew ?_ | refine blk_alloc ?_ _)); refine blk_far ?_ NB186_200.out _; (with_reducible repeat (first | refine blk_drewN ?_ _ | refine blk_drew ?_ | refine blk_alloc ?_ _)); exact BK186.out⟩
                              have n3_ : Aside0 ((((((w47.setCell ⟨gb200, 0, none⟩ (.int .i64 ((rd_T37 y196 x49_2).f0))).setCell ⟨gb200, 1, none⟩ (.int .u64 ((rd_T37 y196 x49_2).f1))).setCell ⟨gb200, 2, none⟩ (.int .u64 ((rd_T37 y196 x49_2).f2))).setCell ⟨gb200, 3, none⟩ (.int .i64 ((rd_T37 y196 x49_2).f3))).setCell ⟨gb200, 4, none⟩ (.int .i64 ((rd_T37 y196 x49_2).f4))).heap[gb190]? = some (.cells #[.int .i64 a1, .int .u64 (Int.tmod a2 3), .int .u64 (Int.tmod a3 3), .int .i64 t188, .int .i64 t189] 37 (0, 0))) := ⟨by (with_reducible repeat (first | refine blk_drewN ?_ _ | refine blk_drew ?_ | refine blk_alloc ?_ _)); refine blk_far ?_ NB190_200.out _; (with_reducible repeat (first | refine blk_drewN ?_ _ | refine blk_drew ?_ | refine blk_alloc ?_ _)); refine blk_far ?_ NB190_200.out _; (with_reducible repeat (first | refine blk_drewN ?_ _ | refine blk_drew ?_ | refine blk_alloc ?_ _)); refine blk_far ?_ NB190_200.out _; (with_reducible repeat (first | refine blk_drewN ?_ _ | refine blk_drew ?_ | refine blk_alloc ?_ _)); refine blk_far ?_ NB190_200.out _; (with_reducible repeat (first | refine blk_drewN ?_ _ | refine blk_drew ?_ | refine blk_alloc ?_ _)); refine blk_far ?_ NB190_200.out _; (with_reducible repeat (first | refine blk_drewN ?_ _ | refine blk_drew ?_ | refine blk_alloc ?_ _)); exact BK190.out⟩
                              have n4_ : Aside0 ((((((w47.setCell ⟨gb200, 0, none⟩ (.int .i64 ((rd_T37 y196 x49_2).f0))).setCell ⟨gb200, 1, none⟩ (.int .u64 ((rd_T37 y196 x49_2).f1))).setCell ⟨gb200, 2, none⟩ (.int .u64 ((rd_T37 y196 x49_2).f2))).setCell ⟨gb200, 3, none⟩ (.int .i64 ((rd_T37 y196 x49_2).f3))).setCell ⟨gb200, 4, none⟩ (.int .i64 ((rd_T37 y196 x49_2).f4))).heap[gb200]? = some (.cells #[.int .i64 ((rd_T37 y196 x49_2).f0), .int .u64 ((rd_T37 y196 x49_2).f1), .int .u64 ((rd_T37 y196 x49_2).f2), .int .i64 ((rd_T37 y196 x49_2).f3), .int .i64 ((rd_T37 y196 x49_2).f4)] 37 (0, 0))) := ⟨by (with_reducible repeat (first | refine blk_drewN ?_ _ | refine blk_drew ?_ | refine blk_alloc ?_ _)); refine blk_put (cs := #[.int .i64 ((rd_T37 y196 x49_2).f0), .int .u64 ((rd_T37 y196 x49_2).f1), .int .u64 ((rd_T37 y196 x49_2).f2), .int .i64 ((rd_T37 y196 x49_2).f3), .int .i64 0]) ?_ 4 _ rfl; (with_reducible repeat (first | refine blk_drewN ?_ _ | refine blk_drew ?_ | refine blk_alloc ?_ _)); refine blk_put (cs := #[.int .i64 ((rd_T37 y196 x49_2).f0), .int .u64 ((rd_T37 y196 x49_2).f1), .int .u64 ((rd_T37 y196 x49_2).f2), .int .i64 0, .int .i64 0]) ?_ 3 _ rfl; (with_reducible repeat (first | refine blk_drewN ?_ _ | refine blk_drew ?_ | refine blk_alloc ?_ _)); refine blk_put (cs := #[.int .i64 ((rd_T37 y196 x49_2).f0), .int .u64 ((rd_T37 y196 x49_2).f1), .int .u64 0, .int .i64 0, .int .i64 0]) ?_ 2 _ rfl; (with_reducible repeat (first | refine blk_drewN ?_ _ | refine blk_drew ?_ | refine blk_alloc ?_ _)); refine blk_put (cs := #[.int .i64 ((rd_T37 y196 x49_2).f0), .int .u64 0, .int .u64 0, .int .i64 0, .int .i64 0]) ?_ 1 _ rfl; (with_reducible repeat (first | refine blk_drewN ?_ _ | refine blk_drew ?_ | refine blk_alloc ?_ _)); refine blk_put (cs := #[.int .i64 0, .int .u64 0, .int .u64 0, .int .i64 0, .int .i64 0]) ?_ 0 _ rfl; (with_reducible repeat (first | refine blk_drewN ?_ _ | refine blk_drew ?_ | refine blk_alloc ?_ _)); exact BK200.out⟩
                              have n5_ : Aside0 (Below w.heap.size w (((((w47.setCell ⟨gb200, 0, none⟩ (.int .i64 ((rd_T37 y196 x49_2).f0))).setCell ⟨gb200, 1, none⟩ (.int .u64 ((rd_T37 y196 x49_2).f1))).setCell ⟨gb200, 2, none⟩ (.int .u64 ((rd_T37 y196 x49_2).f2))).setCell ⟨gb200, 3, none⟩ (.int .i64 ((rd_T37 y196 x49_2).f3))).setCell ⟨gb200, 4, none⟩ (.int .i64 ((rd_T37 y196 x49_2).f4)))) := ⟨by repeat (first | (with_reducible first | exact HB.out | apply below_alloc | apply pw_below_drewN | apply below_drew1 | refine below_set ?_ GE186.out | refine below_set ?_ GE190.out | refine below_set ?_ GE200.out) | exact HB.out)⟩
                              (try clear HO_39)
                              (try clear HO_47)
                              (try clear BK186)
                              (try clear BK190)
                              (try clear BK200)
                              (try clear HB)
                              generalize (((((w47.setCell ⟨gb200, 0, none⟩ (.int .i64 ((rd_T37 y196 x49_2).f0))).setCell ⟨gb200, 1, none⟩ (.int .u64 ((rd_T37 y196 x49_2).f1))).setCell ⟨gb200, 2, none⟩ (.int .u64 ((rd_T37 y196 x49_2).f2))).setCell ⟨gb200, 3, none⟩ (.int .i64 ((rd_T37 y196 x49_2).f3))).setCell ⟨gb200, 4, none⟩ (.int .i64 ((rd_T37 y196 x49_2).f4))) = w51 at n0_ n1_ n2_ n3_ n4_ n5_ ⊢
                              have HO_39 := n0_
                              have HO_47 := n1_
                              have BK186 := n2_
                              have BK190 := n3_
                              have BK200 := n4_
                              have HB := n5_
                              clear n0_ n1_ n2_ n3_ n4_ n5_
                              have n0_ := Aside0.mk (Kd.R_drew HO_39.out)
                              have n1_ := Aside0.mk (Kd.R_drew HO_47.out)
                              have n2_ := Aside0.mk (blk_drew BK186.out)
                              have n3_ := Aside0.mk (blk_drew BK190.out)
                              have n4_ := Aside0.mk (blk_drew BK200.out)
                              have n5_ := Aside0.mk (below_drew1 HB.out)
                              clear HO_39
                              clear HO_47
                              clear BK186
                              clear BK190
                              clear BK200
                              clear HB
                              have HO_39 := n0_
                              have HO_47 := n1_
                              have BK186 := n2_
                              have BK190 := n3_
                              have BK200 := n4_
                              have HB := n5_
                              clear n0_ n1_ n2_ n3_ n4_ n5_
                              refine start_ (n := 7) (S := fun w' => w'.cell? ⟨gb200, 0, none⟩ = some (.int .i64 ((rd_T37 y196 x49_2).f0)) ∧ w'.cell? ⟨gb200, 1, none⟩ = some (.int .u64 ((rd_T37 y196 x49_2).f1)) ∧ w'.cell? ⟨gb200, 2, none⟩ = some (.int .u64 ((rd_T37 y196 x49_2).f2)) ∧ w'.cell? ⟨gb200, 3, none⟩ = some (.int .i64 ((rd_T37 y196 x49_2).f3)) ∧ w'.cell? ⟨gb200, 4, none⟩ = some (.int .i64 ((rd_T37 y196 x49_2).f4))) (ds := []) #[false, false, false, false, false, false, false] (by kernel_rfl) rfl rfl ⟨(blk_cell BK200.out 0).trans rfl, (blk_cell BK200.out 1).trans rfl, (blk_cell BK200.out 2).trans rfl, (blk_cell BK200.out 3).trans rfl, (blk_cell BK200.out 4).trans rfl⟩ (fun hHeld => ?_)
                              generalize w51.drew = w52 at HO_39 HO_47 BK186 BK190 BK200 HB hHeld ⊢
                              refine pure_ (i := 1) (N := some 54) (v := ?_) (a' := ?_) #[false, true, false, false, false, false, false] rfl rfl (by kernel_rfl) (fun _ _ _ h => h) (Or.inl ⟨by rfl, ?_⟩) ?_ ?_
                              rotate_left
                              · intro w'
                                go_simp
                                with_reducible rfl
                              rotate_left
                              · simp only [Act.put, List.setIfInBounds_toArray, List.set_cons_zero, List.set_cons_succ, i64_w, i32_w]
                                rfl
                              refine pure_ (i := 4) (N := some 57) (v := ?_) (a' := ?_) #[false, true, false, false, true, false, false] rfl rfl (by kernel_rfl) (fun _ _ _ h => h) (Or.inl ⟨by rfl, ?_⟩) ?_ ?_
                              rotate_left
                              · intro w'
                                go_simp
                                with_reducible rfl
                              rotate_left
                              · simp only [Act.put, List.setIfInBounds_toArray, List.set_cons_zero, List.set_cons_succ, i64_w, i32_w]
                                rfl
                              refine take_ (i := 0) (N := some 53) (v := ?_) (a' := ?_) #[true, true, false, false, true, false, false] rfl rfl (by kernel_rfl) (fun _ _ _ h => h) (Or.inl ⟨by rfl, ?_⟩) hHeld ?_ ?_
                              rotate_left
                              · rintro w' ⟨s0, s1, s2, s3, s4⟩
                                go_simp
                                with_reducible rfl
                              rotate_left
                              · simp only [Act.put, List.setIfInBounds_toArray, List.set_cons_zero, List.set_cons_succ, i64_w, i32_w]
                                rfl
                              refine take_ (i := 3) (N := some 56) (v := ?_) (a' := ?_) #[true, true, false, true, true, false, false] rfl rfl (by kernel_rfl) (fun _ _ _ h => h) (Or.inl ⟨by rfl, ?_⟩) hHeld ?_ ?_
                              rotate_left
                              · rintro w' ⟨s0, s1, s2, s3, s4⟩
                                go_simp
                                with_reducible rfl
                              rotate_left
                              · simp only [Act.put, List.setIfInBounds_toArray, List.set_cons_zero, List.set_cons_succ, i64_w, i32_w]
                                rfl
                              refine one_ (i := 2) (N := some 55) #[true, true, true, true, true, false, false] rfl rfl (by kernel_rfl) (by decide) (fun K hK => ?_)
                              refine goes_ Try.func21 (by kernel_rfl) rfl #[.agg #[.int .i64 ((rd_T37 y196 x49_2).f0), .int .u64 ((rd_T37 y196 x49_2).f1), .int .u64 ((rd_T37 y196 x49_2).f2), .int .i64 ((rd_T37 y196 x49_2).f3), .int .i64 ((rd_T37 y196 x49_2).f4)], .int .i64 (rd y192 x41_1)] (by rfl) rfl rfl (by (try simp only [List.map_toArray, List.map_cons, List.map_nil]); first | done | rfl | (simp only [List.length_drop, List.length_take]; rfl)) ?_
                              with_reducible refine (plug_Advance.calls k2 ((rd_T37 y196 x49_2).f0) ((rd_T37 y196 x49_2).f1) ((rd_T37 y196 x49_2).f2) ((rd_T37 y196 x49_2).f3) ((rd_T37 y196 x49_2).f4) (rd y192 x41_1) t201 t202 t203 t204 t205 _ A32.out).mono ?_
                              rintro e w53 ⟨rfl, hb⟩
                              refine ⟨_, rfl, ?_⟩
                              have n0_ := Aside0.mk (Kd.R_below (by (with_reducible repeat (first | apply Kd.R_alloc | apply Kd.R_drewN | apply Kd.R_drew)); exact HO_39.out) hb)
                              have n1_ := Aside0.mk (Kd.R_below (by (with_reducible repeat (first | apply Kd.R_alloc | apply Kd.R_drewN | apply Kd.R_drew)); exact HO_47.out) hb)
                              have n2_ := Aside0.mk (blk_below (g := gb186) (o := .cells #[.int .i64 a0_0, .int .u64 a0_1, .int .u64 a0_2, .int .i64 a0_3, .int .i64 a0_4] 37 (0, 0)) (by (with_reducible repeat (first | refine blk_drewN ?_ _ | refine blk_drew ?_ | refine blk_alloc ?_ _)); exact BK186.out) hb)
                              have n3_ := Aside0.mk (blk_below (g := gb190) (o := .cells #[.int .i64 a1, .int .u64 (Int.tmod a2 3), .int .u64 (Int.tmod a3 3), .int .i64 t188, .int .i64 t189] 37 (0, 0)) (by (with_reducible repeat (first | refine blk_drewN ?_ _ | refine blk_drew ?_ | refine blk_alloc ?_ _)); exact BK190.out) hb)
                              have n4_ := Aside0.mk (blk_below (g := gb200) (o := .cells #[.int .i64 ((rd_T37 y196 x49_2).f0), .int .u64 ((rd_T37 y196 x49_2).f1), .int .u64 ((rd_T37 y196 x49_2).f2), .int .i64 ((rd_T37 y196 x49_2).f3), .int .i64 ((rd_T37 y196 x49_2).f4)] 37 (0, 0)) (by (with_reducible repeat (first | refine blk_drewN ?_ _ | refine blk_drew ?_ | refine blk_alloc ?_ _)); exact BK200.out) hb)
                              have n5_ := Aside0.mk (below_step (by repeat (first | (with_reducible first | exact HB.out | apply below_alloc | apply pw_below_drewN | apply below_drew1 | refine below_set ?_ GE186.out | refine below_set ?_ GE190.out | refine below_set ?_ GE200.out) | exact HB.out)) hb)
                              clear HO_39
                              clear HO_47
                              clear BK186
                              clear BK190
                              clear BK200
                              clear HB
                              have HO_39 := n0_
                              have HO_47 := n1_
                              have BK186 := n2_
                              have BK190 := n3_
                              have BK200 := n4_
                              have HB := n5_
                              clear n0_ n1_ n2_ n3_ n4_ n5_
                              (try clear hb)
                              (try clear hb2)
                              (try clear hk)
                              (try clear hi)
                              refine hK.out _ _ ⟨(blk_cell BK200.out 0).trans rfl, (blk_cell BK200.out 1).trans rfl, (blk_cell BK200.out 2).trans rfl, (blk_cell BK200.out 3).trans rfl, (blk_cell BK200.out 4).trans rfl⟩ (fun hHeld => ?_)
                              clear hK K
                              refine norm_ (a' := ?_) ?_ ?_
                              rotate_left
                              · show Act.put _ (some 55) _ = _
                                simp only [Act.put, List.setIfInBounds_toArray, List.set_cons_zero, List.set_cons_succ, i64_w, i32_w]
                                rfl
                              refine one_ (i := 5) (N := some 58) #[true, true, true, true, true, true, false] rfl rfl (by kernel_rfl) (by decide) (fun K hK => ?_)
                              refine goes_ Try.func22 (by kernel_rfl) rfl #[.agg #[.int .i64 ((rd_T37 y196 x49_2).f0), .int .u64 ((rd_T37 y196 x49_2).f1), .int .u64 ((rd_T37 y196 x49_2).f2), .int .i64 ((rd_T37 y196 x49_2).f3), .int .i64 ((rd_T37 y196 x49_2).f4)], .int .i64 (rd y192 x41_1)] (by rfl) rfl rfl (by (try simp only [List.map_toArray, List.map_cons, List.map_nil]); first | done | rfl | (simp only [List.length_drop, List.length_take]; rfl)) ?_
                              with_reducible refine (soundserviceref33_Advance.calls k2 ((rd_T37 y196 x49_2).f0) ((rd_T37 y196 x49_2).f1) ((rd_T37 y196 x49_2).f2) ((rd_T37 y196 x49_2).f3) ((rd_T37 y196 x49_2).f4) (rd y192 x41_1) t206 t207 t208 t209 t210 _ A33.out).mono ?_
                              rintro e w54 ⟨rfl, hb⟩
                              refine ⟨_, rfl, ?_⟩
                              have n0_ := Aside0.mk (Kd.R_below (by (with_reducible repeat (first | apply Kd.R_alloc | apply Kd.R_drewN | apply Kd.R_drew)); exact HO_39.out) hb)
                              have n1_ := Aside0.mk (Kd.R_below (by (with_reducible repeat (first | apply Kd.R_alloc | apply Kd.R_drewN | apply Kd.R_drew)); exact HO_47.out) hb)
                              have n2_ := Aside0.mk (blk_below (g := gb186) (o := .cells #[.int .i64 a0_0, .int .u64 a0_1, .int .u64 a0_2, .int .i64 a0_3, .int .i64 a0_4] 37 (0, 0)) (by (with_reducible repeat (first | refine blk_drewN ?_ _ | refine blk_drew ?_ | refine blk_alloc ?_ _)); exact BK186.out) hb)
                              have n3_ := Aside0.mk (blk_below (g := gb190) (o := .cells #[.int .i64 a1, .int .u64 (Int.tmod a2 3), .int .u64 (Int.tmod a3 3), .int .i64 t188, .int .i64 t189] 37 (0, 0)) (by (with_reducible repeat (first | refine blk_drewN ?_ _ | refine blk_drew ?_ | refine blk_alloc ?_ _)); exact BK190.out) hb)
                              have n4_ := Aside0.mk (blk_below (g := gb200) (o := .cells #[.int .i64 ((rd_T37 y196 x49_2).f0), .int .u64 ((rd_T37 y196 x49_2).f1), .int .u64 ((rd_T37 y196 x49_2).f2), .int .i64 ((rd_T37 y196 x49_2).f3), .int .i64 ((rd_T37 y196 x49_2).f4)] 37 (0, 0)) (by (with_reducible repeat (first | refine blk_drewN ?_ _ | refine blk_drew ?_ | refine blk_alloc ?_ _)); exact BK200.out) hb)
                              have n5_ := Aside0.mk (below_step (by repeat (first | (with_reducible first | exact HB.out | apply below_alloc | apply pw_below_drewN | apply below_drew1 | refine below_set ?_ GE186.out | refine below_set ?_ GE190.out | refine below_set ?_ GE200.out) | exact HB.out)) hb)
                              clear HO_39
                              clear HO_47
                              clear BK186
                              clear BK190
                              clear BK200
                              clear HB
                              have HO_39 := n0_
                              have HO_47 := n1_
                              have BK186 := n2_
                              have BK190 := n3_
                              have BK200 := n4_
                              have HB := n5_
                              clear n0_ n1_ n2_ n3_ n4_ n5_
                              (try clear hb)
                              (try clear hb2)
                              (try clear hk)
                              (try clear hi)
                              refine hK.out _ _ ⟨(blk_cell BK200.out 0).trans rfl, (blk_cell BK200.out 1).trans rfl, (blk_cell BK200.out 2).trans rfl, (blk_cell BK200.out 3).trans rfl, (blk_cell BK200.out 4).trans rfl⟩ (fun hHeld => ?_)
                              clear hK K
                              refine norm_ (a' := ?_) ?_ ?_
                              rotate_left
                              · show Act.put _ (some 58) _ = _
                                simp only [Act.put, List.setIfInBounds_toArray, List.set_cons_zero, List.set_cons_succ, i64_w, i32_w]
                                rfl
                              refine pure_ (i := 6) (N := some 59) (v := ?_) (a' := ?_) #[true, true, true, true, true, true, true] rfl rfl (by kernel_rfl) (fun _ _ _ h => h) (Or.inl ⟨by rfl, ?_⟩) ?_ ?_
                              rotate_left
                              · intro w'
                                go_simp
                                with_reducible rfl
                              rotate_left
                              · simp only [Act.put, List.setIfInBounds_toArray, List.set_cons_zero, List.set_cons_succ, i64_w, i32_w]
                                rfl
                              refine done_ (by kernel_rfl) ?_
                              have hcz55_0 : w54.cell? ⟨gb200, 0, none⟩ = some (.int .i64 ((rd_T37 y196 x49_2).f0)) := (blk_cell BK200.out 0).trans rfl
                              have hcz55_1 : w54.cell? ⟨gb200, 1, none⟩ = some (.int .u64 ((rd_T37 y196 x49_2).f1)) := (blk_cell BK200.out 1).trans rfl
                              have hcz55_2 : w54.cell? ⟨gb200, 2, none⟩ = some (.int .u64 ((rd_T37 y196 x49_2).f2)) := (blk_cell BK200.out 2).trans rfl
                              have hcz55_3 : w54.cell? ⟨gb200, 3, none⟩ = some (.int .i64 ((rd_T37 y196 x49_2).f3)) := (blk_cell BK200.out 3).trans rfl
                              have hcz55_4 : w54.cell? ⟨gb200, 4, none⟩ = some (.int .i64 ((rd_T37 y196 x49_2).f4)) := (blk_cell BK200.out 4).trans rfl
                              have hfz55_0 := blk_frozen BK200.out 0
                              have hfz55_1 := blk_frozen BK200.out 1
                              have hfz55_2 := blk_frozen BK200.out 2
                              have hfz55_3 := blk_frozen BK200.out 3
                              have hfz55_4 := blk_frozen BK200.out 4
                              try go_wp2_with (first | ((with_reducible refine gate_callee (f := 23) rfl ?_); refine goesL_ (some 62) rfl rfl Try.func23 (by kernel_rfl) rfl #[.agg #[.int .i64 ((rd_T37 y196 x49_2).f0), .int .u64 ((rd_T37 y196 x49_2).f1), .int .u64 ((rd_T37 y196 x49_2).f2), .int .i64 ((rd_T37 y196 x49_2).f3), .int .i64 ((rd_T37 y196 x49_2).f4)]] rfl (by (try simp only [List.map_toArray, List.map_cons, List.map_nil]); first | done | rfl | (simp only [List.length_drop, List.length_take]; rfl)) ?_; (with_reducible refine (plug_Wanted.calls ((rd_T37 y196 x49_2).f0) ((rd_T37 y196 x49_2).f1) ((rd_T37 y196 x49_2).f2) ((rd_T37 y196 x49_2).f3) ((rd_T37 y196 x49_2).f4) t211 t212 _ A43.out).mono ?_); rintro e w56 ⟨rfl, hb⟩; refine ⟨_, rfl, ?_⟩; have n0_ := Aside0.mk (Kd.R_below (by (with_reducible repeat (first | apply Kd.R_alloc | apply Kd.R_drewN | apply Kd.R_drew)); exact HO_39.out) hb); have n1_ := Aside0.mk (Kd.R_below (by (with_reducible repeat (first | apply Kd.R_alloc | apply Kd.R_drewN | apply Kd.R_drew)); exact HO_47.out) hb); have n2_ := Aside0.mk (blk_below (g := gb186) (o := .cells #[.int .i64 a0_0, .int .u64 a0_1, .int .u64 a0_2, .int .i64 a0_3, .int .i64 a0_4] 37 (0, 0)) (by (with_reducible repeat (first | refine blk_drewN ?_ _ | refine blk_drew ?_ | refine blk_alloc ?_ _)); exact BK186.out) hb); have n3_ := Aside0.mk (blk_below (g := gb190) (o := .cells #[.int .i64 a1, .int .u64 (Int.tmod a2 3), .int .u64 (Int.tmod a3 3), .int .i64 t188, .int .i64 t189] 37 (0, 0)) (by (with_reducible repeat (first | refine blk_drewN ?_ _ | refine blk_drew ?_ | refine blk_alloc ?_ _)); exact BK190.out) hb); have n4_ := Aside0.mk (blk_below (g := gb200) (o := .cells #[.int .i64 ((rd_T37 y196 x49_2).f0), .int .u64 ((rd_T37 y196 x49_2).f1), .int .u64 ((rd_T37 y196 x49_2).f2), .int .i64 ((rd_T37 y196 x49_2).f3), .int .i64 ((rd_T37 y196 x49_2).f4)] 37 (0, 0)) (by (with_reducible repeat (first | refine blk_drewN ?_ _ | refine blk_drew ?_ | refine blk_alloc ?_ _)); exact BK200.out) hb); have n5_ := Aside0.mk (below_step (by repeat (first | (with_reducible first | exact HB.out | apply below_alloc | apply pw_below_drewN | apply below_drew1 | refine below_set ?_ GE186.out | refine below_set ?_ GE190.out | refine below_set ?_ GE200.out) | exact HB.out)) hb); clear HO_39; clear HO_47; clear BK186; clear BK190; clear BK200; clear HB; have HO_39 := n0_; have HO_47 := n1_; have BK186 := n2_; have BK190 := n3_; have BK200 := n4_; have HB := n5_; clear n0_ n1_ n2_ n3_ n4_ n5_; (try clear hb); (try clear hb2); (try clear hk); (try clear hi); have hcz57_0 : w56.cell? ⟨gb200, 0, none⟩ = some (.int .i64 ((rd_T37 y196 x49_2).f0)) := (blk_cell BK200.out 0).trans rfl; have hcz57_1 : w56.cell? ⟨gb200, 1, none⟩ = some (.int .u64 ((rd_T37 y196 x49_2).f1)) := (blk_cell BK200.out 1).trans rfl; have hcz57_2 : w56.cell? ⟨gb200, 2, none⟩ = some (.int .u64 ((rd_T37 y196 x49_2).f2)) := (blk_cell BK200.out 2).trans rfl; have hcz57_3 : w56.cell? ⟨gb200, 3, none⟩ = some (.int .i64 ((rd_T37 y196 x49_2).f3)) := (blk_cell BK200.out 3).trans rfl; have hcz57_4 : w56.cell? ⟨gb200, 4, none⟩ = some (.int .i64 ((rd_T37 y196 x49_2).f4)) := (blk_cell BK200.out 4).trans rfl; have hfz57_0 := blk_frozen BK200.out 0; have hfz57_1 := blk_frozen BK200.out 1; have hfz57_2 := blk_frozen BK200.out 2; have hfz57_3 := blk_frozen BK200.out 3; have hfz57_4 := blk_frozen BK200.out 4) | ((with_reducible refine gate_callee (f := 24) rfl ?_); refine goesL_ (some 67) rfl rfl Try.func24 (by kernel_rfl) rfl #[.agg #[.int .i64 ((rd_T37 y196 x49_2).f0), .int .u64 ((rd_T37 y196 x49_2).f1), .int .u64 ((rd_T37 y196 x49_2).f2), .int .i64 ((rd_T37 y196 x49_2).f3), .int .i64 ((rd_T37 y196 x49_2).f4)]] rfl (by (try simp only [List.map_toArray, List.map_cons, List.map_nil]); first | done | rfl | (simp only [List.length_drop, List.length_take]; rfl)) ?_; (with_reducible refine (soundserviceref33_Wanted.calls ((rd_T37 y196 x49_2).f0) ((rd_T37 y196 x49_2).f1) ((rd_T37 y196 x49_2).f2) ((rd_T37 y196 x49_2).f3) ((rd_T37 y196 x49_2).f4) t213 t214 _ A44.out).mono ?_); rintro e w58 ⟨rfl, hb⟩; refine ⟨_, rfl, ?_⟩; have n0_ := Aside0.mk (Kd.R_below (by (with_reducible repeat (first | apply Kd.R_alloc | apply Kd.R_drewN | apply Kd.R_drew)); exact HO_39.out) hb); have n1_ := Aside0.mk (Kd.R_below (by (with_reducible repeat (first | apply Kd.R_alloc | apply Kd.R_drewN | apply Kd.R_drew)); exact HO_47.out) hb); have n2_ := Aside0.mk (blk_below (g := gb186) (o := .cells #[.int .i64 a0_0, .int .u64 a0_1, .int .u64 a0_2, .int .i64 a0_3, .int .i64 a0_4] 37 (0, 0)) (by (with_reducible repeat (first | refine blk_drewN ?_ _ | refine blk_drew ?_ | refine blk_alloc ?_ _)); exact BK186.out) hb); have n3_ := Aside0.mk (blk_below (g := gb190) (o := .cells #[.int .i64 a1, .int .u64 (Int.tmod a2 3), .int .u64 (Int.tmod a3 3), .int .i64 t188, .int .i64 t189] 37 (0, 0)) (by (with_reducible repeat (first | refine blk_drewN ?_ _ | refine blk_drew ?_ | refine blk_alloc ?_ _)); exact BK190.out) hb); have n4_ := Aside0.mk (blk_below (g := gb200) (o := .cells #[.int .i64 ((rd_T37 y196 x49_2).f0), .int .u64 ((rd_T37 y196 x49_2).f1), .int .u64 ((rd_T37 y196 x49_2).f2), .int .i64 ((rd_T37 y196 x49_2).f3), .int .i64 ((rd_T37 y196 x49_2).f4)] 37 (0, 0)) (by (with_reducible repeat (first | refine blk_drewN ?_ _ | refine blk_drew ?_ | refine blk_alloc ?_ _)); exact BK200.out) hb); have n5_ := Aside0.mk (below_step (by repeat (first | (with_reducible first | exact HB.out | apply below_alloc | apply pw_below_drewN | apply below_drew1 | refine below_set ?_ GE186.out | refine below_set ?_ GE190.out | refine below_set ?_ GE200.out) | exact HB.out)) hb); clear HO_39; clear HO_47; clear BK186; clear BK190; clear BK200; clear HB; have HO_39 := n0_; have HO_47 := n1_; have BK186 := n2_; have BK190 := n3_; have BK200 := n4_; have HB := n5_; clear n0_ n1_ n2_ n3_ n4_ n5_; (try clear hb); (try clear hb2); (try clear hk); (try clear hi)))
                              go_ret
                              exact ⟨by first | rfl | (simp [errW_none, errW_some] <;> rfl) | (simp [*, errW_none, errW_some] <;> rfl), by repeat (first | (with_reducible first | exact HB.out | apply below_alloc | apply pw_below_drewN | apply below_drew1 | refine below_set ?_ GE186.out | refine below_set ?_ GE190.out | refine below_set ?_ GE200.out) | exact HB.out)⟩
                            · rw [if_neg c46] at H
                              have c46b0 : (t212 != t214) = false := by simpa using c46
                              (try (have c46b1 : decide (t212 = t214) = true := by simpa using c46))
                              (try (have c46b2 : (t212 == t214) = true := by simpa using c46))
                              clear c46
                              have H' := Aside0.mk H
                              clear H
                              have p199 : 0 ≤ (x49_2 : Int) := of_decide_eq_true (by first | (with_reducible assumption) | assumption)
                              have q199 : x49_2 < (y196.length : Int) := of_decide_eq_true (by first | (with_reducible assumption) | assumption)
                              obtain ⟨ad199, e199, hx199_0, hx199_1, hx199_2, hx199_3, hx199_4⟩ := at_T37 (Kd.R_reads' HO_47.out).2.2 x49_2 p199 q199
                              cases e199
                              replace p199 := eq_true p199
                              replace q199 := eq_true q199
                              try go_wp2_with (first | ((with_reducible refine gate_dst (N := 17) rfl ?_); refine box_event ?hg (N := 17) ?hd (cs := #[.int .i64 0, .int .u64 0, .int .u64 0, .int .i64 0, .int .i64 0]) (t := 37) ?hr ?_; (case hd => rfl); (case hg => rfl); (case hr => first | (go_simp; done) | (go_simp; rfl)); intro gb200 hg w59 hbox hb; have n0_ := Aside0.mk (Kd.R_below (by (with_reducible repeat (first | apply Kd.R_alloc | apply Kd.R_drewN | apply Kd.R_drew)); exact HO_39.out) hb); have n1_ := Aside0.mk (Kd.R_below (Kd.R_elderB (by (with_reducible repeat (first | apply Kd.R_alloc | apply Kd.R_drewN | apply Kd.R_drew)); exact HO_47.out) gb200 (Nat.le_of_eq hg.symm)) hb); have n2_ := Aside0.mk (blk_below (g := gb186) (o := .cells #[.int .i64 a0_0, .int .u64 a0_1, .int .u64 a0_2, .int .i64 a0_3, .int .i64 a0_4] 37 (0, 0)) (by (with_reducible repeat (first | refine blk_drewN ?_ _ | refine blk_drew ?_ | refine blk_alloc ?_ _)); exact BK186.out) hb); have n3_ := Aside0.mk (blk_below (g := gb190) (o := .cells #[.int .i64 a1, .int .u64 (Int.tmod a2 3), .int .u64 (Int.tmod a3 3), .int .i64 t188, .int .i64 t189] 37 (0, 0)) (by (with_reducible repeat (first | refine blk_drewN ?_ _ | refine blk_drew ?_ | refine blk_alloc ?_ _)); exact BK190.out) hb); have n4_ := Aside0.mk (below_step (by repeat (first | (with_reducible first | exact HB.out | apply below_alloc | apply pw_below_drewN | apply below_drew1 | refine below_set ?_ GE186.out | refine below_set ?_ GE190.out) | exact HB.out)) hb); have n5_ := Aside0.mk (hbox); have n6_ := Aside0.mk ((by rw [hg]; exact (below_size (by repeat (first | (with_reducible first | exact HB.out | apply below_alloc | apply pw_below_drewN | apply below_drew1 | refine below_set ?_ GE186.out | refine below_set ?_ GE190.out) | exact HB.out))) : w.heap.size ≤ gb200)); have n7_ := Aside0.mk ((by rw [hg]; exact (below_size (by repeat (first | (with_reducible first | exact HB.out | apply below_alloc | apply pw_below_drewN | apply below_drew1 | refine below_set ?_ GE186.out | refine below_set ?_ GE190.out) | exact HB.out))) : w.heap.size ≤ gb200)); have n8_ := Aside0.mk ((by rw [hg]; exact Nat.ne_of_lt (blk_lt (g := gb186) (o := .cells #[.int .i64 a0_0, .int .u64 a0_1, .int .u64 a0_2, .int .i64 a0_3, .int .i64 a0_4] 37 (0, 0)) (by (with_reducible repeat (first | refine blk_drewN ?_ _ | refine blk_drew ?_ | refine blk_alloc ?_ _)); exact BK186.out)) : gb186 ≠ gb200)); have n9_ := Aside0.mk ((by rw [hg]; exact Nat.ne_of_gt (blk_lt (g := gb186) (o := .cells #[.int .i64 a0_0, .int .u64 a0_1, .int .u64 a0_2, .int .i64 a0_3, .int .i64 a0_4] 37 (0, 0)) (by (with_reducible repeat (first | refine blk_drewN ?_ _ | refine blk_drew ?_ | refine blk_alloc ?_ _)); exact BK186.out)) : gb200 ≠ gb186)); have n10_ := Aside0.mk ((by rw [hg]; exact Nat.ne_of_lt (blk_lt (g := gb190) (o := .cells #[.int .i64 a1, .int .u64 (Int.tmod a2 3), .int .u64 (Int.tmod a3 3), .int .i64 t188, .int .i64 t189] 37 (0, 0)) (by (with_reducible repeat (first | refine blk_drewN ?_ _ | refine blk_drew ?_ | refine blk_alloc ?_ _)); exact BK190.out)) : gb190 ≠ gb200)); have n11_ := Aside0.mk ((by rw [hg]; exact Nat.ne_of_gt (blk_lt (g := gb190) (o := .cells #[.int .i64 a1, .int .u64 (Int.tmod a2 3), .int .u64 (Int.tmod a3 3), .int .i64 t188, .int .i64 t189] 37 (0, 0)) (by (with_reducible repeat (first | refine blk_drewN ?_ _ | refine blk_drew ?_ | refine blk_alloc ?_ _)); exact BK190.out)) : gb200 ≠ gb190)); clear HO_39; clear HO_47; clear BK186; clear BK190; clear HB; have HO_39 := n0_; have HO_47 := n1_; have BK186 := n2_; have BK190 := n3_; have HB := n4_; have BK200 := n5_; have GW200 := n6_; have GE200 := n7_; have NB186_200 := n8_; have NB200_186 := n9_; have NB190_200 := n10_; have NB200_190 := n11_; clear n0_ n1_ n2_ n3_ n4_ n5_ n6_ n7_ n8_ n9_ n10_ n11_; clear hb hbox hg; have hnb60 := NB200_186.out; have hnc60 := NB186_200.out; have hnb61 := NB200_190.out; have hnc61 := NB190_200.out; have hcz62_0 : w59.cell? ⟨gb200, 0, none⟩ = some (.int .i64 0) := (blk_cell BK200.out 0).trans rfl; have hcz62_1 : w59.cell? ⟨gb200, 1, none⟩ = some (.int .u64 0) := (blk_cell BK200.out 1).trans rfl; have hcz62_2 : w59.cell? ⟨gb200, 2, none⟩ = some (.int .u64 0) := (blk_cell BK200.out 2).trans rfl; have hcz62_3 : w59.cell? ⟨gb200, 3, none⟩ = some (.int .i64 0) := (blk_cell BK200.out 3).trans rfl; have hcz62_4 : w59.cell? ⟨gb200, 4, none⟩ = some (.int .i64 0) := (blk_cell BK200.out 4).trans rfl; have hfz62_0 := blk_frozen BK200.out 0; have hfz62_1 := blk_frozen BK200.out 1; have hfz62_2 := blk_frozen BK200.out 2; have hfz62_3 := blk_frozen BK200.out 3; have hfz62_4 := blk_frozen BK200.out 4))
                              have n0_ : Aside0 (Kd.R (Kd.int .i64) 3 (((((w59.setCell ⟨gb200, 0, none⟩ (.int .i64 ((rd_T37 y196 x49_2).f0))).setCell ⟨gb200, 1, none⟩ (.int .u64 ((rd_T37 y196 x49_2).f1))).setCell ⟨gb200, 2, none⟩ (.int .u64 ((rd_T37 y196 x49_2).f2))).setCell ⟨gb200, 3, none⟩ (.int .i64 ((rd_T37 y196 x49_2).f3))).setCell ⟨gb200, 4, none⟩ (.int .i64 ((rd_T37 y196 x49_2).f4))) w.heap.size (fun _ => True) (.slice (some ad195) y192.length co19) y192) := ⟨by (with_reducible repeat (first | apply Kd.R_alloc | apply Kd.R_drewN | apply Kd.R_drew)); exact Kd.R_mono (Kd.R_far (p := ⟨gb200, 4, none⟩) (Kd.R_far (p := ⟨gb200, 3, none⟩) (Kd.R_far (p := ⟨gb200, 2, none⟩) (Kd.R_far (p := ⟨gb200, 1, none⟩) (Kd.R_far (p := ⟨gb200, 0, none⟩) (Kd.R_types HO_39.out BK200.out (by decide)) (fun _ hk => hk.2) (.int .i64 ((rd_T37 y196 x49_2).f0))) (fun _ hk => hk.2) (.int .u64 ((rd_T37 y196 x49_2).f1))) (fun _ hk => hk.2) (.int .u64 ((rd_T37 y196 x49_2).f2))) (fun _ hk => hk.2) (.int .i64 ((rd_T37 y196 x49_2).f3))) (fun _ hk => hk.2) (.int .i64 ((rd_T37 y196 x49_2).f4))) (fun _ hk => trivial)⟩
                              have n1_ : Aside0 (Kd.R k37 37 (((((w59.setCell ⟨gb200, 0, none⟩ (.int .i64 ((rd_T37 y196 x49_2).f0))).setCell ⟨gb200, 1, none⟩ (.int .u64 ((rd_T37 y196 x49_2).f1))).setCell ⟨gb200, 2, none⟩ (.int .u64 ((rd_T37 y196 x49_2).f2))).setCell ⟨gb200, 3, none⟩ (.int .i64 ((rd_T37 y196 x49_2).f3))).setCell ⟨gb200, 4, none⟩ (.int .i64 ((rd_T37 y196 x49_2).f4))) w.heap.size (fun k_ => k_ ≠ gb186 ∧ k_ ≠ gb190 ∧ k_ ≠ gb200) (.slice (some ad199) y196.length co28) y196) := ⟨by (with_reducible repeat (first | apply Kd.R_alloc | apply Kd.R_drewN | apply Kd.R_drew)); exact Kd.R_mono (Kd.R_far (p := ⟨gb200, 4, none⟩) (Kd.R_far (p := ⟨gb200, 3, none⟩) (Kd.R_far (p := ⟨gb200, 2, none⟩) (Kd.R_far (p := ⟨gb200, 1, none⟩) (Kd.R_far (p := ⟨gb200, 0, none⟩) (Kd.R_mono HO_47.out (fun k_ hk => (⟨hk, hk.2⟩ : _ ∧ k_ ≠ gb200))) (fun _ hk => hk.2) (.int .i64 ((rd_T37 y196 x49_2).f0))) (fun _ hk => hk.2) (.int .u64 ((rd_T37 y196 x49_2).f1))) (fun _ hk => hk.2) (.int .u64 ((rd_T37 y196 x49_2).f2))) (fun _ hk => hk.2) (.int .i64 ((rd_T37 y196 x49_2).f3))) (fun _ hk => hk.2) (.int .i64 ((rd_T37 y196 x49_2).f4))) (fun _ hk => ⟨hk.1.1.1, ⟨hk.1.1.2, hk.1.2⟩⟩)⟩
                              have n2_ : Aside0 ((((((w59.setCell ⟨gb200, 0, none⟩ (.int .i64 ((rd_T37 y196 x49_2).f0))).setCell ⟨gb200, 1, none⟩ (.int .u64 ((rd_T37 y196 x49_2).f1))).setCell ⟨gb200, 2, none⟩ (.int .u64 ((rd_T37 y196 x49_2).f2))).setCell ⟨gb200, 3, none⟩ (.int .i64 ((rd_T37 y196 x49_2).f3))).setCell ⟨gb200, 4, none⟩ (.int .i64 ((rd_T37 y196 x49_2).f4))).heap[gb186]? = some (.cells #[.int .i64 a0_0, .int .u64 a0_1, .int .u64 a0_2, .int .i64 a0_3, .int .i64 a0_4] 37 (0, 0))) := ⟨by (with_reducible repeat (first | refine blk_drewN ?_ _ | refine blk_drew ?_ | refine blk_alloc ?_ _)); refine blk_far ?_ NB186_200.out _; (with_reducible repeat (first | refine blk_drewN ?_ _ | refine blk_drew ?_ | refine blk_alloc ?_ _)); refine blk_far ?_ NB186_200.out _; (with_reducible repeat (first | refine blk_drewN ?_ _ | refine blk_drew ?_ | refine blk_alloc ?_ _)); refine blk_far ?_ NB186_200.out _; (with_reducible repeat (first | refine blk_drewN ?_ _ | refine blk_drew ?_ | refine blk_alloc ?_ _)); refine blk_far ?_ NB186_200.out _; (with_reducible repeat (first | refine blk_drewN ?_ _ | refine blk_drew ?_ | refine blk_alloc ?_ _)); refine blk_far ?_ NB186_200.out _; (with_reducible repeat (first | refine blk_drewN ?_ _ | refine blk_drew ?_ | refine blk_alloc ?_ _)); exact BK186.out⟩
                              have n3_ : Aside0 ((((((w59.setCell ⟨gb200, 0, none⟩ (.int .i64 ((rd_T37 y196 x49_2).f0))).setCell ⟨gb200, 1, none⟩ (.int .u64 ((rd_T37 y196 x49_2).f1))).setCell ⟨gb200, 2, none⟩ (.int .u64 ((rd_T37 y196 x49_2).f2))).setCell ⟨gb200, 3, none⟩ (.int .i64 ((rd_T37 y196 x49_2).f3))).setCell ⟨gb200, 4, none⟩ (.int .i64 ((rd_T37 y196 x49_2).f4))).heap[gb190]? = some (.cells #[.int .i64 a1, .int .u64 (Int.tmod a2 3), .int .u64 (Int.tmod a3 3), .int .i64 t188, .int .i64 t189] 37 (0, 0))) := ⟨by (with_reducible repeat (first | refine blk_drewN ?_ _ | refine blk_drew ?_ | refine blk_alloc ?_ _)); refine blk_far ?_ NB190_200.out _; (with_reducible repeat (first | refine blk_drewN ?_ _ | refine blk_drew ?_ | refine blk_alloc ?_ _)); refine blk_far ?_ NB190_200.out _; (with_reducible repeat (first | refine blk_drewN ?_ _ | refine blk_drew ?_ | refine blk_alloc ?_ _)); refine blk_far ?_ NB190_200.out _; (with_reducible repeat (first | refine blk_drewN ?_ _ | refine blk_drew ?_ | refine blk_alloc ?_ _)); refine blk_far ?_ NB190_200.out _; (with_reducible repeat (first | refine blk_drewN ?_ _ | refine blk_drew ?_ | refine blk_alloc ?_ _)); refine blk_far ?_ NB190_200.out _; (with_reducible repeat (first | refine blk_drewN ?_ _ | refine blk_drew ?_ | refine blk_alloc ?_ _)); exact BK190.out⟩
                              have n4_ : Aside0 ((((((w59.setCell ⟨gb200, 0, none⟩ (.int .i64 ((rd_T37 y196 x49_2).f0))).setCell ⟨gb200, 1, none⟩ (.int .u64 ((rd_T37 y196 x49_2).f1))).setCell ⟨gb200, 2, none⟩ (.int .u64 ((rd_T37 y196 x49_2).f2))).setCell ⟨gb200, 3, none⟩ (.int .i64 ((rd_T37 y196 x49_2).f3))).setCell ⟨gb200, 4, none⟩ (.int .i64 ((rd_T37 y196 x49_2).f4))).heap[gb200]? = some (.cells #[.int .i64 ((rd_T37 y196 x49_2).f0), .int .u64 ((rd_T37 y196 x49_2).f1), .int .u64 ((rd_T37 y196 x49_2).f2), .int .i64 ((rd_T37 y196 x49_2).f3), .int .i64 ((rd_T37 y196 x49_2).f4)] 37 (0, 0))) := ⟨by (with_reducible repeat (first | refine blk_drewN ?_ _ | refine blk_drew ?_ | refine blk_alloc ?_ _)); refine blk_put (cs := #[.int .i64 ((rd_T37 y196 x49_2).f0), .int .u64 ((rd_T37 y196 x49_2).f1), .int .u64 ((rd_T37 y196 x49_2).f2), .int .i64 ((rd_T37 y196 x49_2).f3), .int .i64 0]) ?_ 4 _ rfl; (with_reducible repeat (first | refine blk_drewN ?_ _ | refine blk_drew ?_ | refine blk_alloc ?_ _)); refine blk_put (cs := #[.int .i64 ((rd_T37 y196 x49_2).f0), .int .u64 ((rd_T37 y196 x49_2).f1), .int .u64 ((rd_T37 y196 x49_2).f2), .int .i64 0, .int .i64 0]) ?_ 3 _ rfl; (with_reducible repeat (first | refine blk_drewN ?_ _ | refine blk_drew ?_ | refine blk_alloc ?_ _)); refine blk_put (cs := #[.int .i64 ((rd_T37 y196 x49_2).f0), .int .u64 ((rd_T37 y196 x49_2).f1), .int .u64 0, .int .i64 0, .int .i64 0]) ?_ 2 _ rfl; (with_reducible repeat (first | refine blk_drewN ?_ _ | refine blk_drew ?_ | refine blk_alloc ?_ _)); refine blk_put (cs := #[.int .i64 ((rd_T37 y196 x49_2).f0), .int .u64 0, .int .u64 0, .int .i64 0, .int .i64 0]) ?_ 1 _ rfl; (with_reducible repeat (first | refine blk_drewN ?_ _ | refine blk_drew ?_ | refine blk_alloc ?_ _)); refine blk_put (cs := #[.int .i64 0, .int .u64 0, .int .u64 0, .int .i64 0, .int .i64 0]) ?_ 0 _ rfl; (with_reducible repeat (first | refine blk_drewN ?_ _ | refine blk_drew ?_ | refine blk_alloc ?_ _)); exact BK200.out⟩
                              have n5_ : Aside0 (Below w.heap.size w (((((w59.setCell ⟨gb200, 0, none⟩ (.int .i64 ((rd_T37 y196 x49_2).f0))).setCell ⟨gb200, 1, none⟩ (.int .u64 ((rd_T37 y196 x49_2).f1))).setCell ⟨gb200, 2, none⟩ (.int .u64 ((rd_T37 y196 x49_2).f2))).setCell ⟨gb200, 3, none⟩ (.int .i64 ((rd_T37 y196 x49_2).f3))).setCell ⟨gb200, 4, none⟩ (.int .i64 ((rd_T37 y196 x49_2).f4)))) := ⟨by repeat (first | (with_reducible first | exact HB.out | apply below_alloc | apply pw_below_drewN | apply below_drew1 | refine below_set ?_ GE186.out | refine below_set ?_ GE190.out | refine below_set ?_ GE200.out) | exact HB.out)⟩
                              (try clear HO_39)
                              (try clear HO_47)
                              (try clear BK186)
                              (try clear BK190)
                              (try clear BK200)
                              (try clear HB)
                              generalize (((((w59.setCell ⟨gb200, 0, none⟩ (.int .i64 ((rd_T37 y196 x49_2).f0))).setCell ⟨gb200, 1, none⟩ (.int .u64 ((rd_T37 y196 x49_2).f1))).setCell ⟨gb200, 2, none⟩ (.int .u64 ((rd_T37 y196 x49_2).f2))).setCell ⟨gb200, 3, none⟩ (.int .i64 ((rd_T37 y196 x49_2).f3))).setCell ⟨gb200, 4, none⟩ (.int .i64 ((rd_T37 y196 x49_2).f4))) = w63 at n0_ n1_ n2_ n3_ n4_ n5_ ⊢
                              have HO_39 := n0_
                              have HO_47 := n1_
                              have BK186 := n2_
                              have BK190 := n3_
                              have BK200 := n4_
                              have HB := n5_
                              clear n0_ n1_ n2_ n3_ n4_ n5_
                              have n0_ := Aside0.mk (Kd.R_drew HO_39.out)
                              have n1_ := Aside0.mk (Kd.R_drew HO_47.out)
                              have n2_ := Aside0.mk (blk_drew BK186.out)
                              have n3_ := Aside0.mk (blk_drew BK190.out)
                              have n4_ := Aside0.mk (blk_drew BK200.out)
                              have n5_ := Aside0.mk (below_drew1 HB.out)
                              clear HO_39
                              clear HO_47
                              clear BK186
                              clear BK190
                              clear BK200
                              clear HB
                              have HO_39 := n0_
                              have HO_47 := n1_
                              have BK186 := n2_
                              have BK190 := n3_
                              have BK200 := n4_
                              have HB := n5_
                              clear n0_ n1_ n2_ n3_ n4_ n5_
                              refine start_ (n := 7) (S := fun w' => w'.cell? ⟨gb200, 0, none⟩ = some (.int .i64 ((rd_T37 y196 x49_2).f0)) ∧ w'.cell? ⟨gb200, 1, none⟩ = some (.int .u64 ((rd_T37 y196 x49_2).f1)) ∧ w'.cell? ⟨gb200, 2, none⟩ = some (.int .u64 ((rd_T37 y196 x49_2).f2)) ∧ w'.cell? ⟨gb200, 3, none⟩ = some (.int .i64 ((rd_T37 y196 x49_2).f3)) ∧ w'.cell? ⟨gb200, 4, none⟩ = some (.int .i64 ((rd_T37 y196 x49_2).f4))) (ds := []) #[false, false, false, false, false, false, false] (by kernel_rfl) rfl rfl ⟨(blk_cell BK200.out 0).trans rfl, (blk_cell BK200.out 1).trans rfl, (blk_cell BK200.out 2).trans rfl, (blk_cell BK200.out 3).trans rfl, (blk_cell BK200.out 4).trans rfl⟩ (fun hHeld => ?_)
                              generalize w63.drew = w64 at HO_39 HO_47 BK186 BK190 BK200 HB hHeld ⊢
                              refine pure_ (i := 1) (N := some 54) (v := ?_) (a' := ?_) #[false, true, false, false, false, false, false] rfl rfl (by kernel_rfl) (fun _ _ _ h => h) (Or.inl ⟨by rfl, ?_⟩) ?_ ?_
                              rotate_left
                              · intro w'
                                go_simp
                                with_reducible rfl
                              rotate_left
                              · simp only [Act.put, List.setIfInBounds_toArray, List.set_cons_zero, List.set_cons_succ, i64_w, i32_w]
                                rfl
                              refine pure_ (i := 4) (N := some 57) (v := ?_) (a' := ?_) #[false, true, false, false, true, false, false] rfl rfl (by kernel_rfl) (fun _ _ _ h => h) (Or.inl ⟨by rfl, ?_⟩) ?_ ?_
                              rotate_left
                              · intro w'
                                go_simp
                                with_reducible rfl
                              rotate_left
                              · simp only [Act.put, List.setIfInBounds_toArray, List.set_cons_zero, List.set_cons_succ, i64_w, i32_w]
                                rfl
                              refine take_ (i := 0) (N := some 53) (v := ?_) (a' := ?_) #[true, true, false, false, true, false, false] rfl rfl (by kernel_rfl) (fun _ _ _ h => h) (Or.inl ⟨by rfl, ?_⟩) hHeld ?_ ?_
                              rotate_left
                              · rintro w' ⟨s0, s1, s2, s3, s4⟩
                                go_simp
                                with_reducible rfl
                              rotate_left
                              · simp only [Act.put, List.setIfInBounds_toArray, List.set_cons_zero, List.set_cons_succ, i64_w, i32_w]
                                rfl
                              refine take_ (i := 3) (N := some 56) (v := ?_) (a' := ?_) #[true, true, false, true, true, false, false] rfl rfl (by kernel_rfl) (fun _ _ _ h => h) (Or.inl ⟨by rfl, ?_⟩) hHeld ?_ ?_
                              rotate_left
                              · rintro w' ⟨s0, s1, s2, s3, s4⟩
                                go_simp
                                with_reducible rfl
                              rotate_left
                              · simp only [Act.put, List.setIfInBounds_toArray, List.set_cons_zero, List.set_cons_succ, i64_w, i32_w]
                                rfl
                              refine one_ (i := 2) (N := some 55) #[true, true, true, true, true, false, false] rfl rfl (by kernel_rfl) (by decide) (fun K hK => ?_)
                              refine goes_ Try.func21 (by kernel_rfl) rfl #[.agg #[.int .i64 ((rd_T37 y196 x49_2).f0), .int .u64 ((rd_T37 y196 x49_2).f1), .int .u64 ((rd_T37 y196 x49_2).f2), .int .i64 ((rd_T37 y196 x49_2).f3), .int .i64 ((rd_T37 y196 x49_2).f4)], .int .i64 (rd y192 x41_1)] (by rfl) rfl rfl (by (try simp only [List.map_toArray, List.map_cons, List.map_nil]); first | done | rfl | (simp only [List.length_drop, List.length_take]; rfl)) ?_
                              with_reducible refine (plug_Advance.calls k2 ((rd_T37 y196 x49_2).f0) ((rd_T37 y196 x49_2).f1) ((rd_T37 y196 x49_2).f2) ((rd_T37 y196 x49_2).f3) ((rd_T37 y196 x49_2).f4) (rd y192 x41_1) t201 t202 t203 t204 t205 _ A32.out).mono ?_
                              rintro e w65 ⟨rfl, hb⟩
                              refine ⟨_, rfl, ?_⟩
                              have n0_ := Aside0.mk (Kd.R_below (by (with_reducible repeat (first | apply Kd.R_alloc | apply Kd.R_drewN | apply Kd.R_drew)); exact HO_39.out) hb)
                              have n1_ := Aside0.mk (Kd.R_below (by (with_reducible repeat (first | apply Kd.R_alloc | apply Kd.R_drewN | apply Kd.R_drew)); exact HO_47.out) hb)
                              have n2_ := Aside0.mk (blk_below (g := gb186) (o := .cells #[.int .i64 a0_0, .int .u64 a0_1, .int .u64 a0_2, .int .i64 a0_3, .int .i64 a0_4] 37 (0, 0)) (by (with_reducible repeat (first | refine blk_drewN ?_ _ | refine blk_drew ?_ | refine blk_alloc ?_ _)); exact BK186.out) hb)
                              have n3_ := Aside0.mk (blk_below (g := gb190) (o := .cells #[.int .i64 a1, .int .u64 (Int.tmod a2 3), .int .u64 (Int.tmod a3 3), .int .i64 t188, .int .i64 t189] 37 (0, 0)) (by (with_reducible repeat (first | refine blk_drewN ?_ _ | refine blk_drew ?_ | refine blk_alloc ?_ _)); exact BK190.out) hb)
                              have n4_ := Aside0.mk (blk_below (g := gb200) (o := .cells #[.int .i64 ((rd_T37 y196 x49_2).f0), .int .u64 ((rd_T37 y196 x49_2).f1), .int .u64 ((rd_T37 y196 x49_2).f2), .int .i64 ((rd_T37 y196 x49_2).f3), .int .i64 ((rd_T37 y196 x49_2).f4)] 37 (0, 0)) (by (with_reducible repeat (first | refine blk_drewN ?_ _ | refine blk_drew ?_ | refine blk_alloc ?_ _)); exact BK200.out) hb)
                              have n5_ := Aside0.mk (below_step (by repeat (first | (with_reducible first | exact HB.out | apply below_alloc | apply pw_below_drewN | apply below_drew1 | refine below_set ?_ GE186.out | refine below_set ?_ GE190.out | refine below_set ?_ GE200.out) | exact HB.out)) hb)
                              clear HO_39
                              clear HO_47
                              clear BK186
                              clear BK190
                              clear BK200
                              clear HB
                              have HO_39 := n0_
                              have HO_47 := n1_
                              have BK186 := n2_
                              have BK190 := n3_
                              have BK200 := n4_
                              have HB := n5_
                              clear n0_ n1_ n2_ n3_ n4_ n5_
                              (try clear hb)
                              (try clear hb2)
                              (try clear hk)
                              (try clear hi)
                              refine hK.out _ _ ⟨(blk_cell BK200.out 0).trans rfl, (blk_cell BK200.out 1).trans rfl, (blk_cell BK200.out 2).trans rfl, (blk_cell BK200.out 3).trans rfl, (blk_cell BK200.out 4).trans rfl⟩ (fun hHeld => ?_)
                              clear hK K
                              refine norm_ (a' := ?_) ?_ ?_
                              rotate_left
                              · show Act.put _ (some 55) _ = _
                                simp only [Act.put, List.setIfInBounds_toArray, List.set_cons_zero, List.set_cons_succ, i64_w, i32_w]
                                rfl
                              refine one_ (i := 5) (N := some 58) #[true, true, true, true, true, true, false] rfl rfl (by kernel_rfl) (by decide) (fun K hK => ?_)
                              refine goes_ Try.func22 (by kernel_rfl) rfl #[.agg #[.int .i64 ((rd_T37 y196 x49_2).f0), .int .u64 ((rd_T37 y196 x49_2).f1), .int .u64 ((rd_T37 y196 x49_2).f2), .int .i64 ((rd_T37 y196 x49_2).f3), .int .i64 ((rd_T37 y196 x49_2).f4)], .int .i64 (rd y192 x41_1)] (by rfl) rfl rfl (by (try simp only [List.map_toArray, List.map_cons, List.map_nil]); first | done | rfl | (simp only [List.length_drop, List.length_take]; rfl)) ?_
                              with_reducible refine (soundserviceref33_Advance.calls k2 ((rd_T37 y196 x49_2).f0) ((rd_T37 y196 x49_2).f1) ((rd_T37 y196 x49_2).f2) ((rd_T37 y196 x49_2).f3) ((rd_T37 y196 x49_2).f4) (rd y192 x41_1) t206 t207 t208 t209 t210 _ A33.out).mono ?_
                              rintro e w66 ⟨rfl, hb⟩
                              refine ⟨_, rfl, ?_⟩
                              have n0_ := Aside0.mk (Kd.R_below (by (with_reducible repeat (first | apply Kd.R_alloc | apply Kd.R_drewN | apply Kd.R_drew)); exact HO_39.out) hb)
                              have n1_ := Aside0.mk (Kd.R_below (by (with_reducible repeat (first | apply Kd.R_alloc | apply Kd.R_drewN | apply Kd.R_drew)); exact HO_47.out) hb)
                              have n2_ := Aside0.mk (blk_below (g := gb186) (o := .cells #[.int .i64 a0_0, .int .u64 a0_1, .int .u64 a0_2, .int .i64 a0_3, .int .i64 a0_4] 37 (0, 0)) (by (with_reducible repeat (first | refine blk_drewN ?_ _ | refine blk_drew ?_ | refine blk_alloc ?_ _)); exact BK186.out) hb)
                              have n3_ := Aside0.mk (blk_below (g := gb190) (o := .cells #[.int .i64 a1, .int .u64 (Int.tmod a2 3), .int .u64 (Int.tmod a3 3), .int .i64 t188, .int .i64 t189] 37 (0, 0)) (by (with_reducible repeat (first | refine blk_drewN ?_ _ | refine blk_drew ?_ | refine blk_alloc ?_ _)); exact BK190.out) hb)
                              have n4_ := Aside0.mk (blk_below (g := gb200) (o := .cells #[.int .i64 ((rd_T37 y196 x49_2).f0), .int .u64 ((rd_T37 y196 x49_2).f1), .int .u64 ((rd_T37 y196 x49_2).f2), .int .i64 ((rd_T37 y196 x49_2).f3), .int .i64 ((rd_T37 y196 x49_2).f4)] 37 (0, 0)) (by (with_reducible repeat (first | refine blk_drewN ?_ _ | refine blk_drew ?_ | refine blk_alloc ?_ _)); exact BK200.out) hb)
                              have n5_ := Aside0.mk (below_step (by repeat (first | (with_reducible first | exact HB.out | apply below_alloc | apply pw_below_drewN | apply below_drew1 | refine below_set ?_ GE186.out | refine below_set ?_ GE190.out | refine below_set ?_ GE200.out) | exact HB.out)) hb)
                              clear HO_39
                              clear HO_47
                              clear BK186
                              clear BK190
                              clear BK200
                              clear HB
                              have HO_39 := n0_
                              have HO_47 := n1_
                              have BK186 := n2_
                              have BK190 := n3_
                              have BK200 := n4_
                              have HB := n5_
                              clear n0_ n1_ n2_ n3_ n4_ n5_
                              (try clear hb)
                              (try clear hb2)
                              (try clear hk)
                              (try clear hi)
                              refine hK.out _ _ ⟨(blk_cell BK200.out 0).trans rfl, (blk_cell BK200.out 1).trans rfl, (blk_cell BK200.out 2).trans rfl, (blk_cell BK200.out 3).trans rfl, (blk_cell BK200.out 4).trans rfl⟩ (fun hHeld => ?_)
                              clear hK K
                              refine norm_ (a' := ?_) ?_ ?_
                              rotate_left
                              · show Act.put _ (some 58) _ = _
                                simp only [Act.put, List.setIfInBounds_toArray, List.set_cons_zero, List.set_cons_succ, i64_w, i32_w]
                                rfl
                              refine pure_ (i := 6) (N := some 59) (v := ?_) (a' := ?_) #[true, true, true, true, true, true, true] rfl rfl (by kernel_rfl) (fun _ _ _ h => h) (Or.inl ⟨by rfl, ?_⟩) ?_ ?_
                              rotate_left
                              · intro w'
                                go_simp
                                with_reducible rfl
                              rotate_left
                              · simp only [Act.put, List.setIfInBounds_toArray, List.set_cons_zero, List.set_cons_succ, i64_w, i32_w]
                                rfl
                              refine done_ (by kernel_rfl) ?_
                              have hcz67_0 : w66.cell? ⟨gb200, 0, none⟩ = some (.int .i64 ((rd_T37 y196 x49_2).f0)) := (blk_cell BK200.out 0).trans rfl
                              have hcz67_1 : w66.cell? ⟨gb200, 1, none⟩ = some (.int .u64 ((rd_T37 y196 x49_2).f1)) := (blk_cell BK200.out 1).trans rfl
                              have hcz67_2 : w66.cell? ⟨gb200, 2, none⟩ = some (.int .u64 ((rd_T37 y196 x49_2).f2)) := (blk_cell BK200.out 2).trans rfl
                              have hcz67_3 : w66.cell? ⟨gb200, 3, none⟩ = some (.int .i64 ((rd_T37 y196 x49_2).f3)) := (blk_cell BK200.out 3).trans rfl
                              have hcz67_4 : w66.cell? ⟨gb200, 4, none⟩ = some (.int .i64 ((rd_T37 y196 x49_2).f4)) := (blk_cell BK200.out 4).trans rfl
                              have hfz67_0 := blk_frozen BK200.out 0
                              have hfz67_1 := blk_frozen BK200.out 1
                              have hfz67_2 := blk_frozen BK200.out 2
                              have hfz67_3 := blk_frozen BK200.out 3
                              have hfz67_4 := blk_frozen BK200.out 4
                              try go_wp2_with (first | ((with_reducible refine gate_callee (f := 23) rfl ?_); refine goesL_ (some 62) rfl rfl Try.func23 (by kernel_rfl) rfl #[.agg #[.int .i64 ((rd_T37 y196 x49_2).f0), .int .u64 ((rd_T37 y196 x49_2).f1), .int .u64 ((rd_T37 y196 x49_2).f2), .int .i64 ((rd_T37 y196 x49_2).f3), .int .i64 ((rd_T37 y196 x49_2).f4)]] rfl (by (try simp only [List.map_toArray, List.map_cons, List.map_nil]); first | done | rfl | (simp only [List.length_drop, List.length_take]; rfl)) ?_; (with_reducible refine (plug_Wanted.calls ((rd_T37 y196 x49_2).f0) ((rd_T37 y196 x49_2).f1) ((rd_T37 y196 x49_2).f2) ((rd_T37 y196 x49_2).f3) ((rd_T37 y196 x49_2).f4) t211 t212 _ A43.out).mono ?_); rintro e w68 ⟨rfl, hb⟩; refine ⟨_, rfl, ?_⟩; have n0_ := Aside0.mk (Kd.R_below (by (with_reducible repeat (first | apply Kd.R_alloc | apply Kd.R_drewN | apply Kd.R_drew)); exact HO_39.out) hb); have n1_ := Aside0.mk (Kd.R_below (by (with_reducible repeat (first | apply Kd.R_alloc | apply Kd.R_drewN | apply Kd.R_drew)); exact HO_47.out) hb); have n2_ := Aside0.mk (blk_below (g := gb186) (o := .cells #[.int .i64 a0_0, .int .u64 a0_1, .int .u64 a0_2, .int .i64 a0_3, .int .i64 a0_4] 37 (0, 0)) (by (with_reducible repeat (first | refine blk_drewN ?_ _ | refine blk_drew ?_ | refine blk_alloc ?_ _)); exact BK186.out) hb); have n3_ := Aside0.mk (blk_below (g := gb190) (o := .cells #[.int .i64 a1, .int .u64 (Int.tmod a2 3), .int .u64 (Int.tmod a3 3), .int .i64 t188, .int .i64 t189] 37 (0, 0)) (by (with_reducible repeat (first | refine blk_drewN ?_ _ | refine blk_drew ?_ | refine blk_alloc ?_ _)); exact BK190.out) hb); have n4_ := Aside0.mk (blk_below (g := gb200) (o := .cells #[.int .i64 ((rd_T37 y196 x49_2).f0), .int .u64 ((rd_T37 y196 x49_2).f1), .int .u64 ((rd_T37 y196 x49_2).f2), .int .i64 ((rd_T37 y196 x49_2).f3), .int .i64 ((rd_T37 y196 x49_2).f4)] 37 (0, 0)) (by (with_reducible repeat (first | refine blk_drewN ?_ _ | refine blk_drew ?_ | refine blk_alloc ?_ _)); exact BK200.out) hb); have n5_ := Aside0.mk (below_step (by repeat (first | (with_reducible first | exact HB.out | apply below_alloc | apply pw_below_drewN | apply below_drew1 | refine below_set ?_ GE186.out | refine below_set ?_ GE190.out | refine below_set ?_ GE200.out) | exact HB.out)) hb); clear HO_39; clear HO_47; clear BK186; clear BK190; clear BK200; clear HB; have HO_39 := n0_; have HO_47 := n1_; have BK186 := n2_; have BK190 := n3_; have BK200 := n4_; have HB := n5_; clear n0_ n1_ n2_ n3_ n4_ n5_; (try clear hb); (try clear hb2); (try clear hk); (try clear hi); have hcz69_0 : w68.cell? ⟨gb200, 0, none⟩ = some (.int .i64 ((rd_T37 y196 x49_2).f0)) := (blk_cell BK200.out 0).trans rfl; have hcz69_1 : w68.cell? ⟨gb200, 1, none⟩ = some (.int .u64 ((rd_T37 y196 x49_2).f1)) := (blk_cell BK200.out 1).trans rfl; have hcz69_2 : w68.cell? ⟨gb200, 2, none⟩ = some (.int .u64 ((rd_T37 y196 x49_2).f2)) := (blk_cell BK200.out 2).trans rfl; have hcz69_3 : w68.cell? ⟨gb200, 3, none⟩ = some (.int .i64 ((rd_T37 y196 x49_2).f3)) := (blk_cell BK200.out 3).trans rfl; have hcz69_4 : w68.cell? ⟨gb200, 4, none⟩ = some (.int .i64 ((rd_T37 y196 x49_2).f4)) := (blk_cell BK200.out 4).trans rfl; have hfz69_0 := blk_frozen BK200.out 0; have hfz69_1 := blk_frozen BK200.out 1; have hfz69_2 := blk_frozen BK200.out 2; have hfz69_3 := blk_frozen BK200.out 3; have hfz69_4 := blk_frozen BK200.out 4) | ((with_reducible refine gate_callee (f := 24) rfl ?_); refine goesL_ (some 67) rfl rfl Try.func24 (by kernel_rfl) rfl #[.agg #[.int .i64 ((rd_T37 y196 x49_2).f0), .int .u64 ((rd_T37 y196 x49_2).f1), .int .u64 ((rd_T37 y196 x49_2).f2), .int .i64 ((rd_T37 y196 x49_2).f3), .int .i64 ((rd_T37 y196 x49_2).f4)]] rfl (by (try simp only [List.map_toArray, List.map_cons, List.map_nil]); first | done | rfl | (simp only [List.length_drop, List.length_take]; rfl)) ?_; (with_reducible refine (soundserviceref33_Wanted.calls ((rd_T37 y196 x49_2).f0) ((rd_T37 y196 x49_2).f1) ((rd_T37 y196 x49_2).f2) ((rd_T37 y196 x49_2).f3) ((rd_T37 y196 x49_2).f4) t213 t214 _ A44.out).mono ?_); rintro e w70 ⟨rfl, hb⟩; refine ⟨_, rfl, ?_⟩; have n0_ := Aside0.mk (Kd.R_below (by (with_reducible repeat (first | apply Kd.R_alloc | apply Kd.R_drewN | apply Kd.R_drew)); exact HO_39.out) hb); have n1_ := Aside0.mk (Kd.R_below (by (with_reducible repeat (first | apply Kd.R_alloc | apply Kd.R_drewN | apply Kd.R_drew)); exact HO_47.out) hb); have n2_ := Aside0.mk (blk_below (g := gb186) (o := .cells #[.int .i64 a0_0, .int .u64 a0_1, .int .u64 a0_2, .int .i64 a0_3, .int .i64 a0_4] 37 (0, 0)) (by (with_reducible repeat (first | refine blk_drewN ?_ _ | refine blk_drew ?_ | refine blk_alloc ?_ _)); exact BK186.out) hb); have n3_ := Aside0.mk (blk_below (g := gb190) (o := .cells #[.int .i64 a1, .int .u64 (Int.tmod a2 3), .int .u64 (Int.tmod a3 3), .int .i64 t188, .int .i64 t189] 37 (0, 0)) (by (with_reducible repeat (first | refine blk_drewN ?_ _ | refine blk_drew ?_ | refine blk_alloc ?_ _)); exact BK190.out) hb); have n4_ := Aside0.mk (blk_below (g := gb200) (o := .cells #[.int .i64 ((rd_T37 y196 x49_2).f0), .int .u64 ((rd_T37 y196 x49_2).f1), .int .u64 ((rd_T37 y196 x49_2).f2), .int .i64 ((rd_T37 y196 x49_2).f3), .int .i64 ((rd_T37 y196 x49_2).f4)] 37 (0, 0)) (by (with_reducible repeat (first | refine blk_drewN ?_ _ | refine blk_drew ?_ | refine blk_alloc ?_ _)); exact BK200.out) hb); have n5_ := Aside0.mk (below_step (by repeat (first | (with_reducible first | exact HB.out | apply below_alloc | apply pw_below_drewN | apply below_drew1 | refine below_set ?_ GE186.out | refine below_set ?_ GE190.out | refine below_set ?_ GE200.out) | exact HB.out)) hb); clear HO_39; clear HO_47; clear BK186; clear BK190; clear BK200; clear HB; have HO_39 := n0_; have HO_47 := n1_; have BK186 := n2_; have BK190 := n3_; have BK200 := n4_; have HB := n5_; clear n0_ n1_ n2_ n3_ n4_ n5_; (try clear hb); (try clear hb2); (try clear hk); (try clear hi)))
                              go_roundg k2
                              case measure => have := HK1.out; have := HK2.out; omega
                              case rel => exact ⟨(wrap64 (x49_2 + 1)), (by first | rfl | (simp; done) | (simp [*]; done)), H', ⟨by have := HK1.out; have := HK2.out; omega⟩, ⟨by (with_reducible repeat (first | apply Kd.R_alloc | apply Kd.R_drewN | apply Kd.R_drew)); exact HO_39.out⟩, ⟨by (with_reducible repeat (first | apply Kd.R_alloc | apply Kd.R_drewN | apply Kd.R_drew)); exact Kd.R_mono HO_47.out (fun _ hk => ⟨hk.1, hk.2.1⟩)⟩, ⟨by (with_reducible repeat (first | refine blk_drewN ?_ _ | refine blk_drew ?_ | refine blk_alloc ?_ _)); exact BK186.out⟩, ⟨by (with_reducible repeat (first | refine blk_drewN ?_ _ | refine blk_drew ?_ | refine blk_alloc ?_ _)); exact BK190.out⟩, ⟨by repeat (first | (with_reducible first | exact HB.out | apply below_alloc | apply pw_below_drewN | apply below_drew1 | refine below_set ?_ GE186.out | refine below_set ?_ GE190.out | refine below_set ?_ GE200.out) | exact HB.out)⟩⟩
                          · rw [if_neg c45] at H
                            have c45b0 : (t211 == t213) = false := beq_eq_false_iff_ne.mpr c45
                            have c45b1 : (t211 != t213) = true := bne_iff_ne.mpr c45
                            obtain rfl := Option.some.inj H
                            have p199 : 0 ≤ (x49_2 : Int) := of_decide_eq_true (by first | (with_reducible assumption) | assumption)
                            have q199 : x49_2 < (y196.length : Int) := of_decide_eq_true (by first | (with_reducible assumption) | assumption)
                            obtain ⟨ad199, e199, hx199_0, hx199_1, hx199_2, hx199_3, hx199_4⟩ := at_T37 (Kd.R_reads' HO_47.out).2.2 x49_2 p199 q199
                            cases e199
                            replace p199 := eq_true p199
                            replace q199 := eq_true q199
                            try go_wp2_with (first | ((with_reducible refine gate_dst (N := 17) rfl ?_); refine box_event ?hg (N := 17) ?hd (cs := #[.int .i64 0, .int .u64 0, .int .u64 0, .int .i64 0, .int .i64 0]) (t := 37) ?hr ?_; (case hd => rfl); (case hg => rfl); (case hr => first | (go_simp; done) | (go_simp; rfl)); intro gb200 hg w71 hbox hb; have n0_ := Aside0.mk (Kd.R_below (by (with_reducible repeat (first | apply Kd.R_alloc | apply Kd.R_drewN | apply Kd.R_drew)); exact HO_39.out) hb); have n1_ := Aside0.mk (Kd.R_below (Kd.R_elderB (by (with_reducible repeat (first | apply Kd.R_alloc | apply Kd.R_drewN | apply Kd.R_drew)); exact HO_47.out) gb200 (Nat.le_of_eq hg.symm)) hb); have n2_ := Aside0.mk (blk_below (g := gb186) (o := .cells #[.int .i64 a0_0, .int .u64 a0_1, .int .u64 a0_2, .int .i64 a0_3, .int .i64 a0_4] 37 (0, 0)) (by (with_reducible repeat (first | refine blk_drewN ?_ _ | refine blk_drew ?_ | refine blk_alloc ?_ _)); exact BK186.out) hb); have n3_ := Aside0.mk (blk_below (g := gb190) (o := .cells #[.int .i64 a1, .int .u64 (Int.tmod a2 3), .int .u64 (Int.tmod a3 3), .int .i64 t188, .int .i64 t189] 37 (0, 0)) (by (with_reducible repeat (first | refine blk_drewN ?_ _ | refine blk_drew ?_ | refine blk_alloc ?_ _)); exact BK190.out) hb); have n4_ := Aside0.mk (below_step (by repeat (first | (with_reducible first | exact HB.out | apply below_alloc | apply pw_below_drewN | apply below_drew1 | refine below_set ?_ GE186.out | refine below_set ?_ GE190.out) | exact HB.out)) hb); have n5_ := Aside0.mk (hbox); have n6_ := Aside0.mk ((by rw [hg]; exact (below_size (by repeat (first | (with_reducible first | exact HB.out | apply below_alloc | apply pw_below_drewN | apply below_drew1 | refine below_set ?_ GE186.out | refine below_set ?_ GE190.out) | exact HB.out))) : w.heap.size ≤ gb200)); have n7_ := Aside0.mk ((by rw [hg]; exact (below_size (by repeat (first | (with_reducible first | exact HB.out | apply below_alloc | apply pw_below_drewN | apply below_drew1 | refine below_set ?_ GE186.out | refine below_set ?_ GE190.out) | exact HB.out))) : w.heap.size ≤ gb200)); have n8_ := Aside0.mk ((by rw [hg]; exact Nat.ne_of_lt (blk_lt (g := gb186) (o := .cells #[.int .i64 a0_0, .int .u64 a0_1, .int .u64 a0_2, .int .i64 a0_3, .int .i64 a0_4] 37 (0, 0)) (by (with_reducible repeat (first | refine blk_drewN ?_ _ | refine blk_drew ?_ | refine blk_alloc ?_ _)); exact BK186.out)) : gb186 ≠ gb200)); have n9_ := Aside0.mk ((by rw [hg]; exact Nat.ne_of_gt (blk_lt (g := gb186) (o := .cells #[.int .i64 a0_0, .int .u64 a0_1, .int .u64 a0_2, .int .i64 a0_3, .int .i64 a0_4] 37 (0, 0)) (by (with_reducible repeat (first | refine blk_drewN ?_ _ | refine blk_drew ?_ | refine blk_alloc ?_ _)); exact BK186.out)) : gb200 ≠ gb186)); have n10_ := Aside0.mk ((by rw [hg]; exact Nat.ne_of_lt (blk_lt (g := gb190) (o := .cells #[.int .i64 a1, .int .u64 (Int.tmod a2 3), .int .u64 (Int.tmod a3 3), .int .i64 t188, .int .i64 t189] 37 (0, 0)) (by (with_reducible repeat (first | refine blk_drewN ?_ _ | refine blk_drew ?_ | refine blk_alloc ?_ _)); exact BK190.out)) : gb190 ≠ gb200)); have n11_ := Aside0.mk ((by rw [hg]; exact Nat.ne_of_gt (blk_lt (g := gb190) (o := .cells #[.int .i64 a1, .int .u64 (Int.tmod a2 3), .int .u64 (Int.tmod a3 3), .int .i64 t188, .int .i64 t189] 37 (0, 0)) (by (with_reducible repeat (first | refine blk_drewN ?_ _ | refine blk_drew ?_ | refine blk_alloc ?_ _)); exact BK190.out)) : gb200 ≠ gb190)); clear HO_39; clear HO_47; clear BK186; clear BK190; clear HB; have HO_39 := n0_; have HO_47 := n1_; have BK186 := n2_; have BK190 := n3_; have HB := n4_; have BK200 := n5_; have GW200 := n6_; have GE200 := n7_; have NB186_200 := n8_; have NB200_186 := n9_; have NB190_200 := n10_; have NB200_190 := n11_; clear n0_ n1_ n2_ n3_ n4_ n5_ n6_ n7_ n8_ n9_ n10_ n11_; clear hb hbox hg; have hnb72 := NB200_186.out; have hnc72 := NB186_200.out; have hnb73 := NB200_190.out; have hnc73 := NB190_200.out; have hcz74_0 : w71.cell? ⟨gb200, 0, none⟩ = some (.int .i64 0) := (blk_cell BK200.out 0).trans rfl; have hcz74_1 : w71.cell? ⟨gb200, 1, none⟩ = some (.int .u64 0) := (blk_cell BK200.out 1).trans rfl; have hcz74_2 : w71.cell? ⟨gb200, 2, none⟩ = some (.int .u64 0) := (blk_cell BK200.out 2).trans rfl; have hcz74_3 : w71.cell? ⟨gb200, 3, none⟩ = some (.int .i64 0) := (blk_cell BK200.out 3).trans rfl; have hcz74_4 : w71.cell? ⟨gb200, 4, none⟩ = some (.int .i64 0) := (blk_cell BK200.out 4).trans rfl; have hfz74_0 := blk_frozen BK200.out 0; have hfz74_1 := blk_frozen BK200.out 1; have hfz74_2 := blk_frozen BK200.out 2; have hfz74_3 := blk_frozen BK200.out 3; have hfz74_4 := blk_frozen BK200.out 4))
                            have n0_ : Aside0 (Kd.R (Kd.int .i64) 3 (((((w71.setCell ⟨gb200, 0, none⟩ (.int .i64 ((rd_T37 y196 x49_2).f0))).setCell ⟨gb200, 1, none⟩ (.int .u64 ((rd_T37 y196 x49_2).f1))).setCell ⟨gb200, 2, none⟩ (.int .u64 ((rd_T37 y196 x49_2).f2))).setCell ⟨gb200, 3, none⟩ (.int .i64 ((rd_T37 y196 x49_2).f3))).setCell ⟨gb200, 4, none⟩ (.int .i64 ((rd_T37 y196 x49_2).f4))) w.heap.size (fun _ => True) (.slice (some ad195) y192.length co19) y192) := ⟨by (with_reducible repeat (first | apply Kd.R_alloc | apply Kd.R_drewN | apply Kd.R_drew)); exact Kd.R_mono (Kd.R_far (p := ⟨gb200, 4, none⟩) (Kd.R_far (p := ⟨gb200, 3, none⟩) (Kd.R_far (p := ⟨gb200, 2, none⟩) (Kd.R_far (p := ⟨gb200, 1, none⟩) (Kd.R_far (p := ⟨gb200, 0, none⟩) (Kd.R_types HO_39.out BK200.out (by decide)) (fun _ hk => hk.2) (.int .i64 ((rd_T37 y196 x49_2).f0))) (fun _ hk => hk.2) (.int .u64 ((rd_T37 y196 x49_2).f1))) (fun _ hk => hk.2) (.int .u64 ((rd_T37 y196 x49_2).f2))) (fun _ hk => hk.2) (.int .i64 ((rd_T37 y196 x49_2).f3))) (fun _ hk => hk.2) (.int .i64 ((rd_T37 y196 x49_2).f4))) (fun _ hk => trivial)⟩
                            have n1_ : Aside0 (Kd.R k37 37 (((((w71.setCell ⟨gb200, 0, none⟩ (.int .i64 ((rd_T37 y196 x49_2).f0))).setCell ⟨gb200, 1, none⟩ (.int .u64 ((rd_T37 y196 x49_2).f1))).setCell ⟨gb200, 2, none⟩ (.int .u64 ((rd_T37 y196 x49_2).f2))).setCell ⟨gb200, 3, none⟩ (.int .i64 ((rd_T37 y196 x49_2).f3))).setCell ⟨gb200, 4, none⟩ (.int .i64 ((rd_T37 y196 x49_2).f4))) w.heap.size (fun k_ => k_ ≠ gb186 ∧ k_ ≠ gb190 ∧ k_ ≠ gb200) (.slice (some ad199) y196.length co28) y196) := ⟨by (with_reducible repeat (first | apply Kd.R_alloc | apply Kd.R_drewN | apply Kd.R_drew)); exact Kd.R_mono (Kd.R_far (p := ⟨gb200, 4, none⟩) (Kd.R_far (p := ⟨gb200, 3, none⟩) (Kd.R_far (p := ⟨gb200, 2, none⟩) (Kd.R_far (p := ⟨gb200, 1, none⟩) (Kd.R_far (p := ⟨gb200, 0, none⟩) (Kd.R_mono HO_47.out (fun k_ hk => (⟨hk, hk.2⟩ : _ ∧ k_ ≠ gb200))) (fun _ hk => hk.2) (.int .i64 ((rd_T37 y196 x49_2).f0))) (fun _ hk => hk.2) (.int .u64 ((rd_T37 y196 x49_2).f1))) (fun _ hk => hk.2) (.int .u64 ((rd_T37 y196 x49_2).f2))) (fun _ hk => hk.2) (.int .i64 ((rd_T37 y196 x49_2).f3))) (fun _ hk => hk.2) (.int .i64 ((rd_T37 y196 x49_2).f4))) (fun _ hk => ⟨hk.1.1.1, ⟨hk.1.1.2, hk.1.2⟩⟩)⟩
                            have n2_ : Aside0 ((((((w71.setCell ⟨gb200, 0, none⟩ (.int .i64 ((rd_T37 y196 x49_2).f0))).setCell ⟨gb200, 1, none⟩ (.int .u64 ((rd_T37 y196 x49_2).f1))).setCell ⟨gb200, 2, none⟩ (.int .u64 ((rd_T37 y196 x49_2).f2))).setCell ⟨gb200, 3, none⟩ (.int .i64 ((rd_T37 y196 x49_2).f3))).setCell ⟨gb200, 4, none⟩ (.int .i64 ((rd_T37 y196 x49_2).f4))).heap[gb186]? = some (.cells #[.int .i64 a0_0, .int .u64 a0_1, .int .u64 a0_2, .int .i64 a0_3, .int .i64 a0_4] 37 (0, 0))) := ⟨by (with_reducible repeat (first | refine blk_drewN ?_ _ | refine blk_drew ?_ | refine blk_alloc ?_ _)); refine blk_far ?_ NB186_200.out _; (with_reducible repeat (first | refine blk_drewN ?_ _ | refine blk_drew ?_ | refine blk_alloc ?_ _)); refine blk_far ?_ NB186_200.out _; (with_reducible repeat (first | refine blk_drewN ?_ _ | refine blk_drew ?_ | refine blk_alloc ?_ _)); refine blk_far ?_ NB186_200.out _; (with_reducible repeat (first | refine blk_drewN ?_ _ | refine blk_drew ?_ | refine blk_alloc ?_ _)); refine blk_far ?_ NB186_200.out _; (with_reducible repeat (first | refine blk_drewN ?_ _ | refine blk_drew ?_ | refine blk_alloc ?_ _)); refine blk_far ?_ NB186_200.out _; (with_reducible repeat (first | refine blk_drewN ?_ _ | refine blk_drew ?_ | refine blk_alloc ?_ _)); exact BK186.out⟩
                            have n3_ : Aside0 ((((((w71.setCell ⟨gb200, 0, none⟩ (.int .i64 ((rd_T37 y196 x49_2).f0))).setCell ⟨gb200, 1, none⟩ (.int .u64 ((rd_T37 y196 x49_2).f1))).setCell ⟨gb200, 2, none⟩ (.int .u64 ((rd_T37 y196 x49_2).f2))).setCell ⟨gb200, 3, none⟩ (.int .i64 ((rd_T37 y196 x49_2).f3))).setCell ⟨gb200, 4, none⟩ (.int .i64 ((rd_T37 y196 x49_2).f4))).heap[gb190]? = some (.cells #[.int .i64 a1, .int .u64 (Int.tmod a2 3), .int .u64 (Int.tmod a3 3), .int .i64 t188, .int .i64 t189] 37 (0, 0))) := ⟨by (with_reducible repeat (first | refine blk_drewN ?_ _ | refine blk_drew ?_ | refine blk_alloc ?_ _)); refine blk_far ?_ NB190_200.out _; (with_reducible repeat (first | refine blk_drewN ?_ _ | refine blk_drew ?_ | refine blk_alloc ?_ _)); refine blk_far ?_ NB190_200.out _; (with_reducible repeat (first | refine blk_drewN ?_ _ | refine blk_drew ?_ | refine blk_alloc ?_ _)); refine blk_far ?_ NB190_200.out _; (with_reducible repeat (first | refine blk_drewN ?_ _ | refine blk_drew ?_ | refine blk_alloc ?_ _)); refine blk_far ?_ NB190_200.out _; (with_reducible repeat (first | refine blk_drewN ?_ _ | refine blk_drew ?_ | refine blk_alloc ?_ _)); refine blk_far ?_ NB190_200.out _; (with_reducible repeat (first | refine blk_drewN ?_ _ | refine blk_drew ?_ | refine blk_alloc ?_ _)); exact BK190.out⟩
                            have n4_ : Aside0 ((((((w71.setCell ⟨gb200, 0, none⟩ (.int .i64 ((rd_T37 y196 x49_2).f0))).setCell ⟨gb200, 1, none⟩ (.int .u64 ((rd_T37 y196 x49_2).f1))).setCell ⟨gb200, 2, none⟩ (.int .u64 ((rd_T37 y196 x49_2).f2))).setCell ⟨gb200, 3, none⟩ (.int .i64 ((rd_T37 y196 x49_2).f3))).setCell ⟨gb200, 4, none⟩ (.int .i64 ((rd_T37 y196 x49_2).f4))).heap[gb200]? = some (.cells #[.int .i64 ((rd_T37 y196 x49_2).f0), .int .u64 ((rd_T37 y196 x49_2).f1), .int .u64 ((rd_T37 y196 x49_2).f2), .int .i64 ((rd_T37 y196 x49_2).f3), .int .i64 ((rd_T37 y196 x49_2).f4)] 37 (0, 0))) := ⟨by (with_reducible repeat (first | refine blk_drewN ?_ _ | refine blk_drew ?_ | refine blk_alloc ?_ _)); refine blk_put (cs := #[.int .i64 ((rd_T37 y196 x49_2).f0), .int .u64 ((rd_T37 y196 x49_2).f1), .int .u64 ((rd_T37 y196 x49_2).f2), .int .i64 ((rd_T37 y196 x49_2).f3), .int .i64 0]) ?_ 4 _ rfl; (with_reducible repeat (first | refine blk_drewN ?_ _ | refine blk_drew ?_ | refine blk_alloc ?_ _)); refine blk_put (cs := #[.int .i64 ((rd_T37 y196 x49_2).f0), .int .u64 ((rd_T37 y196 x49_2).f1), .int .u64 ((rd_T37 y196 x49_2).f2), .int .i64 0, .int .i64 0]) ?_ 3 _ rfl; (with_reducible repeat (first | refine blk_drewN ?_ _ | refine blk_drew ?_ | refine blk_alloc ?_ _)); refine blk_put (cs := #[.int .i64 ((rd_T37 y196 x49_2).f0), .int .u64 ((rd_T37 y196 x49_2).f1), .int .u64 0, .int .i64 0, .int .i64 0]) ?_ 2 _ rfl; (with_reducible repeat (first | refine blk_drewN ?_ _ | refine blk_drew ?_ | refine blk_alloc ?_ _)); refine blk_put (cs := #[.int .i64 ((rd_T37 y196 x49_2).f0), .int .u64 0, .int .u64 0, .int .i64 0, .int .i64 0]) ?_ 1 _ rfl; (with_reducible repeat (first | refine blk_drewN ?_ _ | refine blk_drew ?_ | refine blk_alloc ?_ _)); refine blk_put (cs := #[.int .i64 0, .int .u64 0, .int .u64 0, .int .i64 0, .int .i64 0]) ?_ 0 _ rfl; (with_reducible repeat (first | refine blk_drewN ?_ _ | refine blk_drew ?_ | refine blk_alloc ?_ _)); exact BK200.out⟩
                            have n5_ : Aside0 (Below w.heap.size w (((((w71.setCell ⟨gb200, 0, none⟩ (.int .i64 ((rd_T37 y196 x49_2).f0))).setCell ⟨gb200, 1, none⟩ (.int .u64 ((rd_T37 y196 x49_2).f1))).setCell ⟨gb200, 2, none⟩ (.int .u64 ((rd_T37 y196 x49_2).f2))).setCell ⟨gb200, 3, none⟩ (.int .i64 ((rd_T37 y196 x49_2).f3))).setCell ⟨gb200, 4, none⟩ (.int .i64 ((rd_T37 y196 x49_2).f4)))) := ⟨by repeat (first | (with_reducible first | exact HB.out | apply below_alloc | apply pw_below_drewN | apply below_drew1 | refine below_set ?_ GE186.out | refine below_set ?_ GE190.out | refine below_set ?_ GE200.out) | exact HB.out)⟩
                            (try clear HO_39)
                            (try clear HO_47)
                            (try clear BK186)
                            (try clear BK190)
                            (try clear BK200)
                            (try clear HB)
                            generalize (((((w71.setCell ⟨gb200, 0, none⟩ (.int .i64 ((rd_T37 y196 x49_2).f0))).setCell ⟨gb200, 1, none⟩ (.int .u64 ((rd_T37 y196 x49_2).f1))).setCell ⟨gb200, 2, none⟩ (.int .u64 ((rd_T37 y196 x49_2).f2))).setCell ⟨gb200, 3, none⟩ (.int .i64 ((rd_T37 y196 x49_2).f3))).setCell ⟨gb200, 4, none⟩ (.int .i64 ((rd_T37 y196 x49_2).f4))) = w75 at n0_ n1_ n2_ n3_ n4_ n5_ ⊢
                            have HO_39 := n0_
                            have HO_47 := n1_
                            have BK186 := n2_
                            have BK190 := n3_
                            have BK200 := n4_
                            have HB := n5_
                            clear n0_ n1_ n2_ n3_ n4_ n5_
                            have n0_ := Aside0.mk (Kd.R_drew HO_39.out)
                            have n1_ := Aside0.mk (Kd.R_drew HO_47.out)
                            have n2_ := Aside0.mk (blk_drew BK186.out)
                            have n3_ := Aside0.mk (blk_drew BK190.out)
                            have n4_ := Aside0.mk (blk_drew BK200.out)
                            have n5_ := Aside0.mk (below_drew1 HB.out)
                            clear HO_39
                            clear HO_47
                            clear BK186
                            clear BK190
                            clear BK200
                            clear HB
                            have HO_39 := n0_
                            have HO_47 := n1_
                            have BK186 := n2_
                            have BK190 := n3_
                            have BK200 := n4_
                            have HB := n5_
                            clear n0_ n1_ n2_ n3_ n4_ n5_
                            refine start_ (n := 7) (S := fun w' => w'.cell? ⟨gb200, 0, none⟩ = some (.int .i64 ((rd_T37 y196 x49_2).f0)) ∧ w'.cell? ⟨gb200, 1, none⟩ = some (.int .u64 ((rd_T37 y196 x49_2).f1)) ∧ w'.cell? ⟨gb200, 2, none⟩ = some (.int .u64 ((rd_T37 y196 x49_2).f2)) ∧ w'.cell? ⟨gb200, 3, none⟩ = some (.int .i64 ((rd_T37 y196 x49_2).f3)) ∧ w'.cell? ⟨gb200, 4, none⟩ = some (.int .i64 ((rd_T37 y196 x49_2).f4))) (ds := []) #[false, false, false, false, false, false, false] (by kernel_rfl) rfl rfl ⟨(blk_cell BK200.out 0).trans rfl, (blk_cell BK200.out 1).trans rfl, (blk_cell BK200.out 2).trans rfl, (blk_cell BK200.out 3).trans rfl, (blk_cell BK200.out 4).trans rfl⟩ (fun hHeld => ?_)
                            generalize w75.drew = w76 at HO_39 HO_47 BK186 BK190 BK200 HB hHeld ⊢
                            refine pure_ (i := 1) (N := some 54) (v := ?_) (a' := ?_) #[false, true, false, false, false, false, false] rfl rfl (by kernel_rfl) (fun _ _ _ h => h) (Or.inl ⟨by rfl, ?_⟩) ?_ ?_
                            rotate_left
                            · intro w'
                              go_simp
                              with_reducible rfl
                            rotate_left
                            · simp only [Act.put, List.setIfInBounds_toArray, List.set_cons_zero, List.set_cons_succ, i64_w, i32_w]
                              rfl
                            refine pure_ (i := 4) (N := some 57) (v := ?_) (a' := ?_) #[false, true, false, false, true, false, false] rfl rfl (by kernel_rfl) (fun _ _ _ h => h) (Or.inl ⟨by rfl, ?_⟩) ?_ ?_
                            rotate_left
                            · intro w'
                              go_simp
                              with_reducible rfl
                            rotate_left
                            · simp only [Act.put, List.setIfInBounds_toArray, List.set_cons_zero, List.set_cons_succ, i64_w, i32_w]
                              rfl
                            refine take_ (i := 0) (N := some 53) (v := ?_) (a' := ?_) #[true, true, false, false, true, false, false] rfl rfl (by kernel_rfl) (fun _ _ _ h => h) (Or.inl ⟨by rfl, ?_⟩) hHeld ?_ ?_
                            rotate_left
                            · rintro w' ⟨s0, s1, s2, s3, s4⟩
                              go_simp
                              with_reducible rfl
                            rotate_left
                            · simp only [Act.put, List.setIfInBounds_toArray, List.set_cons_zero, List.set_cons_succ, i64_w, i32_w]
                              rfl
                            refine take_ (i := 3) (N := some 56) (v := ?_) (a' := ?_) #[true, true, false, true, true, false, false] rfl rfl (by kernel_rfl) (fun _ _ _ h => h) (Or.inl ⟨by rfl, ?_⟩) hHeld ?_ ?_
                            rotate_left
                            · rintro w' ⟨s0, s1, s2, s3, s4⟩
                              go_simp
                              with_reducible rfl
                            rotate_left
                            · simp only [Act.put, List.setIfInBounds_toArray, List.set_cons_zero, List.set_cons_succ, i64_w, i32_w]
                              rfl
                            refine one_ (i := 2) (N := some 55) #[true, true, true, true, true, false, false] rfl rfl (by kernel_rfl) (by decide) (fun K hK => ?_)
                            refine goes_ Try.func21 (by kernel_rfl) rfl #[.agg #[.int .i64 ((rd_T37 y196 x49_2).f0), .int .u64 ((rd_T37 y196 x49_2).f1), .int .u64 ((rd_T37 y196 x49_2).f2), .int .i64 ((rd_T37 y196 x49_2).f3), .int .i64 ((rd_T37 y196 x49_2).f4)], .int .i64 (rd y192 x41_1)] (by rfl) rfl rfl (by (try simp only [List.map_toArray, List.map_cons, List.map_nil]); first | done | rfl | (simp only [List.length_drop, List.length_take]; rfl)) ?_
                            with_reducible refine (plug_Advance.calls k2 ((rd_T37 y196 x49_2).f0) ((rd_T37 y196 x49_2).f1) ((rd_T37 y196 x49_2).f2) ((rd_T37 y196 x49_2).f3) ((rd_T37 y196 x49_2).f4) (rd y192 x41_1) t201 t202 t203 t204 t205 _ A32.out).mono ?_
                            rintro e w77 ⟨rfl, hb⟩
                            refine ⟨_, rfl, ?_⟩
                            have n0_ := Aside0.mk (Kd.R_below (by (with_reducible repeat (first | apply Kd.R_alloc | apply Kd.R_drewN | apply Kd.R_drew)); exact HO_39.out) hb)
                            have n1_ := Aside0.mk (Kd.R_below (by (with_reducible repeat (first | apply Kd.R_alloc | apply Kd.R_drewN | apply Kd.R_drew)); exact HO_47.out) hb)
                            have n2_ := Aside0.mk (blk_below (g := gb186) (o := .cells #[.int .i64 a0_0, .int .u64 a0_1, .int .u64 a0_2, .int .i64 a0_3, .int .i64 a0_4] 37 (0, 0)) (by (with_reducible repeat (first | refine blk_drewN ?_ _ | refine blk_drew ?_ | refine blk_alloc ?_ _)); exact BK186.out) hb)
                            have n3_ := Aside0.mk (blk_below (g := gb190) (o := .cells #[.int .i64 a1, .int .u64 (Int.tmod a2 3), .int .u64 (Int.tmod a3 3), .int .i64 t188, .int .i64 t189] 37 (0, 0)) (by (with_reducible repeat (first | refine blk_drewN ?_ _ | refine blk_drew ?_ | refine blk_alloc ?_ _)); exact BK190.out) hb)
                            have n4_ := Aside0.mk (blk_below (g := gb200) (o := .cells #[.int .i64 ((rd_T37 y196 x49_2).f0), .int .u64 ((rd_T37 y196 x49_2).f1), .int .u64 ((rd_T37 y196 x49_2).f2), .int .i64 ((rd_T37 y196 x49_2).f3), .int .i64 ((rd_T37 y196 x49_2).f4)] 37 (0, 0)) (by (with_reducible repeat (first | refine blk_drewN ?_ _ | refine blk_drew ?_ | refine blk_alloc ?_ _)); exact BK200.out) hb)
                            have n5_ := Aside0.mk (below_step (by repeat (first | (with_reducible first | exact HB.out | apply below_alloc | apply pw_below_drewN | apply below_drew1 | refine below_set ?_ GE186.out | refine below_set ?_ GE190.out | refine below_set ?_ GE200.out) | exact HB.out)) hb)
                            clear HO_39
                            clear HO_47
                            clear BK186
                            clear BK190
                            clear BK200
                            clear HB
                            have HO_39 := n0_
                            have HO_47 := n1_
                            have BK186 := n2_
                            have BK190 := n3_
                            have BK200 := n4_
                            have HB := n5_
                            clear n0_ n1_ n2_ n3_ n4_ n5_
                            (try clear hb)
                            (try clear hb2)
                            (try clear hk)
                            (try clear hi)
                            refine hK.out _ _ ⟨(blk_cell BK200.out 0).trans rfl, (blk_cell BK200.out 1).trans rfl, (blk_cell BK200.out 2).trans rfl, (blk_cell BK200.out 3).trans rfl, (blk_cell BK200.out 4).trans rfl⟩ (fun hHeld => ?_)
                            clear hK K
                            refine norm_ (a' := ?_) ?_ ?_
                            rotate_left
                            · show Act.put _ (some 55) _ = _
                              simp only [Act.put, List.setIfInBounds_toArray, List.set_cons_zero, List.set_cons_succ, i64_w, i32_w]
                              rfl
                            refine one_ (i := 5) (N := some 58) #[true, true, true, true, true, true, false] rfl rfl (by kernel_rfl) (by decide) (fun K hK => ?_)
                            refine goes_ Try.func22 (by kernel_rfl) rfl #[.agg #[.int .i64 ((rd_T37 y196 x49_2).f0), .int .u64 ((rd_T37 y196 x49_2).f1), .int .u64 ((rd_T37 y196 x49_2).f2), .int .i64 ((rd_T37 y196 x49_2).f3), .int .i64 ((rd_T37 y196 x49_2).f4)], .int .i64 (rd y192 x41_1)] (by rfl) rfl rfl (by (try simp only [List.map_toArray, List.map_cons, List.map_nil]); first | done | rfl | (simp only [List.length_drop, List.length_take]; rfl)) ?_
                            with_reducible refine (soundserviceref33_Advance.calls k2 ((rd_T37 y196 x49_2).f0) ((rd_T37 y196 x49_2).f1) ((rd_T37 y196 x49_2).f2) ((rd_T37 y196 x49_2).f3) ((rd_T37 y196 x49_2).f4) (rd y192 x41_1) t206 t207 t208 t209 t210 _ A33.out).mono ?_
                            rintro e w78 ⟨rfl, hb⟩
                            refine ⟨_, rfl, ?_⟩
                            have n0_ := Aside0.mk (Kd.R_below (by (with_reducible repeat (first | apply Kd.R_alloc | apply Kd.R_drewN | apply Kd.R_drew)); exact HO_39.out) hb)
                            have n1_ := Aside0.mk (Kd.R_below (by (with_reducible repeat (first | apply Kd.R_alloc | apply Kd.R_drewN | apply Kd.R_drew)); exact HO_47.out) hb)
                            have n2_ := Aside0.mk (blk_below (g := gb186) (o := .cells #[.int .i64 a0_0, .int .u64 a0_1, .int .u64 a0_2, .int .i64 a0_3, .int .i64 a0_4] 37 (0, 0)) (by (with_reducible repeat (first | refine blk_drewN ?_ _ | refine blk_drew ?_ | refine blk_alloc ?_ _)); exact BK186.out) hb)
                            have n3_ := Aside0.mk (blk_below (g := gb190) (o := .cells #[.int .i64 a1, .int .u64 (Int.tmod a2 3), .int .u64 (Int.tmod a3 3), .int .i64 t188, .int .i64 t189] 37 (0, 0)) (by (with_reducible repeat (first | refine blk_drewN ?_ _ | refine blk_drew ?_ | refine blk_alloc ?_ _)); exact BK190.out) hb)
                            have n4_ := Aside0.mk (blk_below (g := gb200) (o := .cells #[.int .i64 ((rd_T37 y196 x49_2).f0), .int .u64 ((rd_T37 y196 x49_2).f1), .int .u64 ((rd_T37 y196 x49_2).f2), .int .i64 ((rd_T37 y196 x49_2).f3), .int .i64 ((rd_T37 y196 x49_2).f4)] 37 (0, 0)) (by (with_reducible repeat (first | refine blk_drewN ?_ _ | refine blk_drew ?_ | refine blk_alloc ?_ _)); exact BK200.out) hb)
                            have n5_ := Aside0.mk (below_step (by repeat (first | (with_reducible first | exact HB.out | apply below_alloc | apply pw_below_drewN | apply below_drew1 | refine below_set ?_ GE186.out | refine below_set ?_ GE190.out | refine below_set ?_ GE200.out) | exact HB.out)) hb)
                            clear HO_39
                            clear HO_47
                            clear BK186
                            clear BK190
                            clear BK200
                            clear HB
                            have HO_39 := n0_
                            have HO_47 := n1_
                            have BK186 := n2_
                            have BK190 := n3_
                            have BK200 := n4_
                            have HB := n5_
                            clear n0_ n1_ n2_ n3_ n4_ n5_
                            (try clear hb)
                            (try clear hb2)
                            (try clear hk)
                            (try clear hi)
                            refine hK.out _ _ ⟨(blk_cell BK200.out 0).trans rfl, (blk_cell BK200.out 1).trans rfl, (blk_cell BK200.out 2).trans rfl, (blk_cell BK200.out 3).trans rfl, (blk_cell BK200.out 4).trans rfl⟩ (fun hHeld => ?_)
                            clear hK K
                            refine norm_ (a' := ?_) ?_ ?_
                            rotate_left
                            · show Act.put _ (some 58) _ = _
                              simp only [Act.put, List.setIfInBounds_toArray, List.set_cons_zero, List.set_cons_succ, i64_w, i32_w]
                              rfl
                            refine pure_ (i := 6) (N := some 59) (v := ?_) (a' := ?_) #[true, true, true, true, true, true, true] rfl rfl (by kernel_rfl) (fun _ _ _ h => h) (Or.inl ⟨by rfl, ?_⟩) ?_ ?_
                            rotate_left
                            · intro w'
                              go_simp
                              with_reducible rfl
                            rotate_left
                            · simp only [Act.put, List.setIfInBounds_toArray, List.set_cons_zero, List.set_cons_succ, i64_w, i32_w]
                              rfl
                            refine done_ (by kernel_rfl) ?_
                            have hcz79_0 : w78.cell? ⟨gb200, 0, none⟩ = some (.int .i64 ((rd_T37 y196 x49_2).f0)) := (blk_cell BK200.out 0).trans rfl
                            have hcz79_1 : w78.cell? ⟨gb200, 1, none⟩ = some (.int .u64 ((rd_T37 y196 x49_2).f1)) := (blk_cell BK200.out 1).trans rfl
                            have hcz79_2 : w78.cell? ⟨gb200, 2, none⟩ = some (.int .u64 ((rd_T37 y196 x49_2).f2)) := (blk_cell BK200.out 2).trans rfl
                            have hcz79_3 : w78.cell? ⟨gb200, 3, none⟩ = some (.int .i64 ((rd_T37 y196 x49_2).f3)) := (blk_cell BK200.out 3).trans rfl
                            have hcz79_4 : w78.cell? ⟨gb200, 4, none⟩ = some (.int .i64 ((rd_T37 y196 x49_2).f4)) := (blk_cell BK200.out 4).trans rfl
                            have hfz79_0 := blk_frozen BK200.out 0
                            have hfz79_1 := blk_frozen BK200.out 1
                            have hfz79_2 := blk_frozen BK200.out 2
                            have hfz79_3 := blk_frozen BK200.out 3
                            have hfz79_4 := blk_frozen BK200.out 4
                            try go_wp2_with (first | ((with_reducible refine gate_callee (f := 23) rfl ?_); refine goesL_ (some 62) rfl rfl Try.func23 (by kernel_rfl) rfl #[.agg #[.int .i64 ((rd_T37 y196 x49_2).f0), .int .u64 ((rd_T37 y196 x49_2).f1), .int .u64 ((rd_T37 y196 x49_2).f2), .int .i64 ((rd_T37 y196 x49_2).f3), .int .i64 ((rd_T37 y196 x49_2).f4)]] rfl (by (try simp only [List.map_toArray, List.map_cons, List.map_nil]); first | done | rfl | (simp only [List.length_drop, List.length_take]; rfl)) ?_; (with_reducible refine (plug_Wanted.calls ((rd_T37 y196 x49_2).f0) ((rd_T37 y196 x49_2).f1) ((rd_T37 y196 x49_2).f2) ((rd_T37 y196 x49_2).f3) ((rd_T37 y196 x49_2).f4) t211 t212 _ A43.out).mono ?_); rintro e w80 ⟨rfl, hb⟩; refine ⟨_, rfl, ?_⟩; have n0_ := Aside0.mk (Kd.R_below (by (with_reducible repeat (first | apply Kd.R_alloc | apply Kd.R_drewN | apply Kd.R_drew)); exact HO_39.out) hb); have n1_ := Aside0.mk (Kd.R_below (by (with_reducible repeat (first | apply Kd.R_alloc | apply Kd.R_drewN | apply Kd.R_drew)); exact HO_47.out) hb); have n2_ := Aside0.mk (blk_below (g := gb186) (o := .cells #[.int .i64 a0_0, .int .u64 a0_1, .int .u64 a0_2, .int .i64 a0_3, .int .i64 a0_4] 37 (0, 0)) (by (with_reducible repeat (first | refine blk_drewN ?_ _ | refine blk_drew ?_ | refine blk_alloc ?_ _)); exact BK186.out) hb); have n3_ := Aside0.mk (blk_below (g := gb190) (o := .cells #[.int .i64 a1, .int .u64 (Int.tmod a2 3), .int .u64 (Int.tmod a3 3), .int .i64 t188, .int .i64 t189] 37 (0, 0)) (by (with_reducible repeat (first | refine blk_drewN ?_ _ | refine blk_drew ?_ | refine blk_alloc ?_ _)); exact BK190.out) hb); have n4_ := Aside0.mk (blk_below (g := gb200) (o := .cells #[.int .i64 ((rd_T37 y196 x49_2).f0), .int .u64 ((rd_T37 y196 x49_2).f1), .int .u64 ((rd_T37 y196 x49_2).f2), .int .i64 ((rd_T37 y196 x49_2).f3), .int .i64 ((rd_T37 y196 x49_2).f4)] 37 (0, 0)) (by (with_reducible repeat (first | refine blk_drewN ?_ _ | refine blk_drew ?_ | refine blk_alloc ?_ _)); exact BK200.out) hb); have n5_ := Aside0.mk (below_step (by repeat (first | (with_reducible first | exact HB.out | apply below_alloc | apply pw_below_drewN | apply below_drew1 | refine below_set ?_ GE186.out | refine below_set ?_ GE190.out | refine below_set ?_ GE200.out) | exact HB.out)) hb); clear HO_39; clear HO_47; clear BK186; clear BK190; clear BK200; clear HB; have HO_39 := n0_; have HO_47 := n1_; have BK186 := n2_; have BK190 := n3_; have BK200 := n4_; have HB := n5_; clear n0_ n1_ n2_ n3_ n4_ n5_; (try clear hb); (try clear hb2); (try clear hk); (try clear hi); have hcz81_0 : w80.cell? ⟨gb200, 0, none⟩ = some (.int .i64 ((rd_T37 y196 x49_2).f0)) := (blk_cell BK200.out 0).trans rfl; have hcz81_1 : w80.cell? ⟨gb200, 1, none⟩ = some (.int .u64 ((rd_T37 y196 x49_2).f1)) := (blk_cell BK200.out 1).trans rfl; have hcz81_2 : w80.cell? ⟨gb200, 2, none⟩ = some (.int .u64 ((rd_T37 y196 x49_2).f2)) := (blk_cell BK200.out 2).trans rfl; have hcz81_3 : w80.cell? ⟨gb200, 3, none⟩ = some (.int .i64 ((rd_T37 y196 x49_2).f3)) := (blk_cell BK200.out 3).trans rfl; have hcz81_4 : w80.cell? ⟨gb200, 4, none⟩ = some (.int .i64 ((rd_T37 y196 x49_2).f4)) := (blk_cell BK200.out 4).trans rfl; have hfz81_0 := blk_frozen BK200.out 0; have hfz81_1 := blk_frozen BK200.out 1; have hfz81_2 := blk_frozen BK200.out 2; have hfz81_3 := blk_frozen BK200.out 3; have hfz81_4 := blk_frozen BK200.out 4) | ((with_reducible refine gate_callee (f := 24) rfl ?_); refine goesL_ (some 67) rfl rfl Try.func24 (by kernel_rfl) rfl #[.agg #[.int .i64 ((rd_T37 y196 x49_2).f0), .int .u64 ((rd_T37 y196 x49_2).f1), .int .u64 ((rd_T37 y196 x49_2).f2), .int .i64 ((rd_T37 y196 x49_2).f3), .int .i64 ((rd_T37 y196 x49_2).f4)]] rfl (by (try simp only [List.map_toArray, List.map_cons, List.map_nil]); first | done | rfl | (simp only [List.length_drop, List.length_take]; rfl)) ?_; (with_reducible refine (soundserviceref33_Wanted.calls ((rd_T37 y196 x49_2).f0) ((rd_T37 y196 x49_2).f1) ((rd_T37 y196 x49_2).f2) ((rd_T37 y196 x49_2).f3) ((rd_T37 y196 x49_2).f4) t213 t214 _ A44.out).mono ?_); rintro e w82 ⟨rfl, hb⟩; refine ⟨_, rfl, ?_⟩; have n0_ := Aside0.mk (Kd.R_below (by (with_reducible repeat (first | apply Kd.R_alloc | apply Kd.R_drewN | apply Kd.R_drew)); exact HO_39.out) hb); have n1_ := Aside0.mk (Kd.R_below (by (with_reducible repeat (first | apply Kd.R_alloc | apply Kd.R_drewN | apply Kd.R_drew)); exact HO_47.out) hb); have n2_ := Aside0.mk (blk_below (g := gb186) (o := .cells #[.int .i64 a0_0, .int .u64 a0_1, .int .u64 a0_2, .int .i64 a0_3, .int .i64 a0_4] 37 (0, 0)) (by (with_reducible repeat (first | refine blk_drewN ?_ _ | refine blk_drew ?_ | refine blk_alloc ?_ _)); exact BK186.out) hb); have n3_ := Aside0.mk (blk_below (g := gb190) (o := .cells #[.int .i64 a1, .int .u64 (Int.tmod a2 3), .int .u64 (Int.tmod a3 3), .int .i64 t188, .int .i64 t189] 37 (0, 0)) (by (with_reducible repeat (first | refine blk_drewN ?_ _ | refine blk_drew ?_ | refine blk_alloc ?_ _)); exact BK190.out) hb); have n4_ := Aside0.mk (blk_below (g := gb200) (o := .cells #[.int .i64 ((rd_T37 y196 x49_2).f0), .int .u64 ((rd_T37 y196 x49_2).f1), .int .u64 ((rd_T37 y196 x49_2).f2), .int .i64 ((rd_T37 y196 x49_2).f3), .int .i64 ((rd_T37 y196 x49_2).f4)] 37 (0, 0)) (by (with_reducible repeat (first | refine blk_drewN ?_ _ | refine blk_drew ?_ | refine blk_alloc ?_ _)); exact BK200.out) hb); have n5_ := Aside0.mk (below_step (by repeat (first | (with_reducible first | exact HB.out | apply below_alloc | apply pw_below_drewN | apply below_drew1 | refine below_set ?_ GE186.out | refine below_set ?_ GE190.out | refine below_set ?_ GE200.out) | exact HB.out)) hb); clear HO_39; clear HO_47; clear BK186; clear BK190; clear BK200; clear HB; have HO_39 := n0_; have HO_47 := n1_; have BK186 := n2_; have BK190 := n3_; have BK200 := n4_; have HB := n5_; clear n0_ n1_ n2_ n3_ n4_ n5_; (try clear hb); (try clear hb2); (try clear hk); (try clear hi)))
                            go_ret
                            exact ⟨by first | rfl | (simp [errW_none, errW_some] <;> rfl) | (simp [*, errW_none, errW_some] <;> rfl), by repeat (first | (with_reducible first | exact HB.out | apply below_alloc | apply pw_below_drewN | apply below_drew1 | refine below_set ?_ GE186.out | refine below_set ?_ GE190.out | refine below_set ?_ GE200.out) | exact HB.out)⟩
                      · rw [if_neg c31] at H
                        exact absurd H (by simp)
                    · rw [if_neg c30] at H
                      exact absurd H (by simp)
                  · rw [if_neg c29] at H
                    have c29b0 : decide (x49_2 < (y196.length : Int)) = false := decide_eq_false c29
                    clear c29
                    replace H := Option.bind_eq_some_iff.mp H
                    obtain ⟨⟨t215, t216, t217, t218, t219⟩, A830, H⟩ := H
                    replace H : ((soundserviceref33_Begin.f a1 a2 a3 (rd y192 x41_1)).bind fun bt220 => (if (!(t215 == bt220.1) || (!(t216 == bt220.2.1) || (!(t217 == bt220.2.2.1) || (!(t218 == bt220.2.2.2.1) || (!(t219 == bt220.2.2.2.2)))))) = true then (some false) else ((plug_Begin.f k2 a1 (Int.tmod a2 2) (Int.tmod a3 2) (rd y192 x41_1)).bind fun bt225 => ((soundserviceref33_Begin.f a1 (Int.tmod a2 2) (Int.tmod a3 2) (rd y192 x41_1)).bind fun bt230 => (if (!(bt225.1 == bt230.1) || (!(bt225.2.1 == bt230.2.1) || (!(bt225.2.2.1 == bt230.2.2.1) || (!(bt225.2.2.2.1 == bt230.2.2.2.1) || (!(bt225.2.2.2.2 == bt230.2.2.2.2)))))) = true then (some false) else (soundservicelaw33_PlugMoves.l0 k2 a1 a2 a3 y192 (y192.length : Int) (wrap64 (x41_1 + 1)) a0_0 a0_1 a0_2 a0_3 a0_4 a1 (Int.tmod a2 3) (Int.tmod a3 3) t188 t189)))))) = some r := H
                    have A83 := Aside0.mk A830
                    clear A830
                    replace H := Option.bind_eq_some_iff.mp H
                    obtain ⟨⟨t220, t221, t222, t223, t224⟩, A840, H⟩ := H
                    replace H : (if (!(t215 == t220) || (!(t216 == t221) || (!(t217 == t222) || (!(t218 == t223) || (!(t219 == t224)))))) = true then (some false) else ((plug_Begin.f k2 a1 (Int.tmod a2 2) (Int.tmod a3 2) (rd y192 x41_1)).bind fun bt225 => ((soundserviceref33_Begin.f a1 (Int.tmod a2 2) (Int.tmod a3 2) (rd y192 x41_1)).bind fun bt230 => (if (!(bt225.1 == bt230.1) || (!(bt225.2.1 == bt230.2.1) || (!(bt225.2.2.1 == bt230.2.2.1) || (!(bt225.2.2.2.1 == bt230.2.2.2.1) || (!(bt225.2.2.2.2 == bt230.2.2.2.2)))))) = true then (some false) else (soundservicelaw33_PlugMoves.l0 k2 a1 a2 a3 y192 (y192.length : Int) (wrap64 (x41_1 + 1)) a0_0 a0_1 a0_2 a0_3 a0_4 a1 (Int.tmod a2 3) (Int.tmod a3 3) t188 t189))))) = some r := H
                    have A84 := Aside0.mk A840
                    clear A840
                    by_cases c85 : (!(t215 == t220) || (!(t216 == t221) || (!(t217 == t222) || (!(t218 == t223) || (!(t219 == t224)))))) = true
                    · rw [if_pos c85] at H
                      have c85b0 : (!(t215 == t220) || (!(t216 == t221) || (!(t217 == t222) || (!(t218 == t223) || (!(t219 == t224)))))) = true := c85
                      clear c85
                      obtain rfl := Option.some.inj H
                      go_wp2_with (first | ((with_reducible refine gate_callee (f := 25) rfl ?_); refine goesL_ (some 83) rfl rfl Try.func25 (by kernel_rfl) rfl #[.int .i64 a1, .int .u64 a2, .int .u64 a3, .int .i64 (rd y192 x41_1)] rfl (by (try simp only [List.map_toArray, List.map_cons, List.map_nil]); first | done | rfl | (simp only [List.length_drop, List.length_take]; rfl)) ?_; (with_reducible refine (plug_Begin.calls k2 a1 a2 a3 (rd y192 x41_1) t215 t216 t217 t218 t219 _ A83.out).mono ?_); rintro e w86 ⟨rfl, hb⟩; refine ⟨_, rfl, ?_⟩; have n0_ := Aside0.mk (Kd.R_below (by (with_reducible repeat (first | apply Kd.R_alloc | apply Kd.R_drewN | apply Kd.R_drew)); exact HO_39.out) hb); have n1_ := Aside0.mk (Kd.R_below (by (with_reducible repeat (first | apply Kd.R_alloc | apply Kd.R_drewN | apply Kd.R_drew)); exact HO_47.out) hb); have n2_ := Aside0.mk (blk_below (g := gb186) (o := .cells #[.int .i64 a0_0, .int .u64 a0_1, .int .u64 a0_2, .int .i64 a0_3, .int .i64 a0_4] 37 (0, 0)) (by (with_reducible repeat (first | refine blk_drewN ?_ _ | refine blk_drew ?_ | refine blk_alloc ?_ _)); exact BK186.out) hb); have n3_ := Aside0.mk (blk_below (g := gb190) (o := .cells #[.int .i64 a1, .int .u64 (Int.tmod a2 3), .int .u64 (Int.tmod a3 3), .int .i64 t188, .int .i64 t189] 37 (0, 0)) (by (with_reducible repeat (first | refine blk_drewN ?_ _ | refine blk_drew ?_ | refine blk_alloc ?_ _)); exact BK190.out) hb); have n4_ := Aside0.mk (below_step (by repeat (first | (with_reducible first | exact HB.out | apply below_alloc | apply pw_below_drewN | apply below_drew1 | refine below_set ?_ GE186.out | refine below_set ?_ GE190.out) | exact HB.out)) hb); clear HO_39; clear HO_47; clear BK186; clear BK190; clear HB; have HO_39 := n0_; have HO_47 := n1_; have BK186 := n2_; have BK190 := n3_; have HB := n4_; clear n0_ n1_ n2_ n3_ n4_; (try clear hb); (try clear hb2); (try clear hk); (try clear hi)) | ((with_reducible refine gate_callee (f := 26) rfl ?_); refine goesL_ (some 88) rfl rfl Try.func26 (by kernel_rfl) rfl #[.int .i64 a1, .int .u64 a2, .int .u64 a3, .int .i64 (rd y192 x41_1)] rfl (by (try simp only [List.map_toArray, List.map_cons, List.map_nil]); first | done | rfl | (simp only [List.length_drop, List.length_take]; rfl)) ?_; (with_reducible refine (soundserviceref33_Begin.calls a1 a2 a3 (rd y192 x41_1) t220 t221 t222 t223 t224 _ A84.out).mono ?_); rintro e w87 ⟨rfl, hb⟩; refine ⟨_, rfl, ?_⟩; have n0_ := Aside0.mk (Kd.R_below (by (with_reducible repeat (first | apply Kd.R_alloc | apply Kd.R_drewN | apply Kd.R_drew)); exact HO_39.out) hb); have n1_ := Aside0.mk (Kd.R_below (by (with_reducible repeat (first | apply Kd.R_alloc | apply Kd.R_drewN | apply Kd.R_drew)); exact HO_47.out) hb); have n2_ := Aside0.mk (blk_below (g := gb186) (o := .cells #[.int .i64 a0_0, .int .u64 a0_1, .int .u64 a0_2, .int .i64 a0_3, .int .i64 a0_4] 37 (0, 0)) (by (with_reducible repeat (first | refine blk_drewN ?_ _ | refine blk_drew ?_ | refine blk_alloc ?_ _)); exact BK186.out) hb); have n3_ := Aside0.mk (blk_below (g := gb190) (o := .cells #[.int .i64 a1, .int .u64 (Int.tmod a2 3), .int .u64 (Int.tmod a3 3), .int .i64 t188, .int .i64 t189] 37 (0, 0)) (by (with_reducible repeat (first | refine blk_drewN ?_ _ | refine blk_drew ?_ | refine blk_alloc ?_ _)); exact BK190.out) hb); have n4_ := Aside0.mk (below_step (by repeat (first | (with_reducible first | exact HB.out | apply below_alloc | apply pw_below_drewN | apply below_drew1 | refine below_set ?_ GE186.out | refine below_set ?_ GE190.out) | exact HB.out)) hb); clear HO_39; clear HO_47; clear BK186; clear BK190; clear HB; have HO_39 := n0_; have HO_47 := n1_; have BK186 := n2_; have BK190 := n3_; have HB := n4_; clear n0_ n1_ n2_ n3_ n4_; (try clear hb); (try clear hb2); (try clear hk); (try clear hi)))
                      go_ret
                      exact ⟨by first | rfl | (simp [errW_none, errW_some] <;> rfl) | (simp [*, errW_none, errW_some] <;> rfl), by repeat (first | (with_reducible first | exact HB.out | apply below_alloc | apply pw_below_drewN | apply below_drew1 | refine below_set ?_ GE186.out | refine below_set ?_ GE190.out) | exact HB.out)⟩
                    · rw [if_neg c85] at H
                      have c85b0 : (!(t215 == t220) || (!(t216 == t221) || (!(t217 == t222) || (!(t218 == t223) || (!(t219 == t224)))))) = false := by simpa using c85
                      clear c85
                      replace H := Option.bind_eq_some_iff.mp H
                      obtain ⟨⟨t225, t226, t227, t228, t229⟩, A880, H⟩ := H
                      replace H : ((soundserviceref33_Begin.f a1 (Int.tmod a2 2) (Int.tmod a3 2) (rd y192 x41_1)).bind fun bt230 => (if (!(t225 == bt230.1) || (!(t226 == bt230.2.1) || (!(t227 == bt230.2.2.1) || (!(t228 == bt230.2.2.2.1) || (!(t229 == bt230.2.2.2.2)))))) = true then (some false) else (soundservicelaw33_PlugMoves.l0 k2 a1 a2 a3 y192 (y192.length : Int) (wrap64 (x41_1 + 1)) a0_0 a0_1 a0_2 a0_3 a0_4 a1 (Int.tmod a2 3) (Int.tmod a3 3) t188 t189))) = some r := H
                      have A88 := Aside0.mk A880
                      clear A880
                      replace H := Option.bind_eq_some_iff.mp H
                      obtain ⟨⟨t230, t231, t232, t233, t234⟩, A890, H⟩ := H
                      replace H : (if (!(t225 == t230) || (!(t226 == t231) || (!(t227 == t232) || (!(t228 == t233) || (!(t229 == t234)))))) = true then (some false) else (soundservicelaw33_PlugMoves.l0 k2 a1 a2 a3 y192 (y192.length : Int) (wrap64 (x41_1 + 1)) a0_0 a0_1 a0_2 a0_3 a0_4 a1 (Int.tmod a2 3) (Int.tmod a3 3) t188 t189)) = some r := H
                      have A89 := Aside0.mk A890
                      clear A890
                      by_cases c90 : (!(t225 == t230) || (!(t226 == t231) || (!(t227 == t232) || (!(t228 == t233) || (!(t229 == t234)))))) = true
                      · rw [if_pos c90] at H
                        have c90b0 : (!(t225 == t230) || (!(t226 == t231) || (!(t227 == t232) || (!(t228 == t233) || (!(t229 == t234)))))) = true := c90
                        clear c90
                        obtain rfl := Option.some.inj H
                        go_wp2_with (first | ((with_reducible refine gate_callee (f := 25) rfl ?_); refine goesL_ (some 83) rfl rfl Try.func25 (by kernel_rfl) rfl #[.int .i64 a1, .int .u64 a2, .int .u64 a3, .int .i64 (rd y192 x41_1)] rfl (by (try simp only [List.map_toArray, List.map_cons, List.map_nil]); first | done | rfl | (simp only [List.length_drop, List.length_take]; rfl)) ?_; (with_reducible refine (plug_Begin.calls k2 a1 a2 a3 (rd y192 x41_1) t215 t216 t217 t218 t219 _ A83.out).mono ?_); rintro e w91 ⟨rfl, hb⟩; refine ⟨_, rfl, ?_⟩; have n0_ := Aside0.mk (Kd.R_below (by (with_reducible repeat (first | apply Kd.R_alloc | apply Kd.R_drewN | apply Kd.R_drew)); exact HO_39.out) hb); have n1_ := Aside0.mk (Kd.R_below (by (with_reducible repeat (first | apply Kd.R_alloc | apply Kd.R_drewN | apply Kd.R_drew)); exact HO_47.out) hb); have n2_ := Aside0.mk (blk_below (g := gb186) (o := .cells #[.int .i64 a0_0, .int .u64 a0_1, .int .u64 a0_2, .int .i64 a0_3, .int .i64 a0_4] 37 (0, 0)) (by (with_reducible repeat (first | refine blk_drewN ?_ _ | refine blk_drew ?_ | refine blk_alloc ?_ _)); exact BK186.out) hb); have n3_ := Aside0.mk (blk_below (g := gb190) (o := .cells #[.int .i64 a1, .int .u64 (Int.tmod a2 3), .int .u64 (Int.tmod a3 3), .int .i64 t188, .int .i64 t189] 37 (0, 0)) (by (with_reducible repeat (first | refine blk_drewN ?_ _ | refine blk_drew ?_ | refine blk_alloc ?_ _)); exact BK190.out) hb); have n4_ := Aside0.mk (below_step (by repeat (first | (with_reducible first | exact HB.out | apply below_alloc | apply pw_below_drewN | apply below_drew1 | refine below_set ?_ GE186.out | refine below_set ?_ GE190.out) | exact HB.out)) hb); clear HO_39; clear HO_47; clear BK186; clear BK190; clear HB; have HO_39 := n0_; have HO_47 := n1_; have BK186 := n2_; have BK190 := n3_; have HB := n4_; clear n0_ n1_ n2_ n3_ n4_; (try clear hb); (try clear hb2); (try clear hk); (try clear hi)) | ((with_reducible refine gate_callee (f := 26) rfl ?_); refine goesL_ (some 88) rfl rfl Try.func26 (by kernel_rfl) rfl #[.int .i64 a1, .int .u64 a2, .int .u64 a3, .int .i64 (rd y192 x41_1)] rfl (by (try simp only [List.map_toArray, List.map_cons, List.map_nil]); first | done | rfl | (simp only [List.length_drop, List.length_take]; rfl)) ?_; (with_reducible refine (soundserviceref33_Begin.calls a1 a2 a3 (rd y192 x41_1) t220 t221 t222 t223 t224 _ A84.out).mono ?_); rintro e w92 ⟨rfl, hb⟩; refine ⟨_, rfl, ?_⟩; have n0_ := Aside0.mk (Kd.R_below (by (with_reducible repeat (first | apply Kd.R_alloc | apply Kd.R_drewN | apply Kd.R_drew)); exact HO_39.out) hb); have n1_ := Aside0.mk (Kd.R_below (by (with_reducible repeat (first | apply Kd.R_alloc | apply Kd.R_drewN | apply Kd.R_drew)); exact HO_47.out) hb); have n2_ := Aside0.mk (blk_below (g := gb186) (o := .cells #[.int .i64 a0_0, .int .u64 a0_1, .int .u64 a0_2, .int .i64 a0_3, .int .i64 a0_4] 37 (0, 0)) (by (with_reducible repeat (first | refine blk_drewN ?_ _ | refine blk_drew ?_ | refine blk_alloc ?_ _)); exact BK186.out) hb); have n3_ := Aside0.mk (blk_below (g := gb190) (o := .cells #[.int .i64 a1, .int .u64 (Int.tmod a2 3), .int .u64 (Int.tmod a3 3), .int .i64 t188, .int .i64 t189] 37 (0, 0)) (by (with_reducible repeat (first | refine blk_drewN ?_ _ | refine blk_drew ?_ | refine blk_alloc ?_ _)); exact BK190.out) hb); have n4_ := Aside0.mk (below_step (by repeat (first | (with_reducible first | exact HB.out | apply below_alloc | apply pw_below_drewN | apply below_drew1 | refine below_set ?_ GE186.out | refine below_set ?_ GE190.out) | exact HB.out)) hb); clear HO_39; clear HO_47; clear BK186; clear BK190; clear HB; have HO_39 := n0_; have HO_47 := n1_; have BK186 := n2_; have BK190 := n3_; have HB := n4_; clear n0_ n1_ n2_ n3_ n4_; (try clear hb); (try clear hb2); (try clear hk); (try clear hi)) | (go_at_call 25; (with_reducible refine (plug_Begin.calls k2 a1 (Int.tmod a2 2) (Int.tmod a3 2) (rd y192 x41_1) t225 t226 t227 t228 t229 _ A88.out).mono ?_); rintro e w93 ⟨rfl, hb⟩; have n0_ := Aside0.mk (Kd.R_below (by (with_reducible repeat (first | apply Kd.R_alloc | apply Kd.R_drewN | apply Kd.R_drew)); exact HO_39.out) hb); have n1_ := Aside0.mk (Kd.R_below (by (with_reducible repeat (first | apply Kd.R_alloc | apply Kd.R_drewN | apply Kd.R_drew)); exact HO_47.out) hb); have n2_ := Aside0.mk (blk_below (g := gb186) (o := .cells #[.int .i64 a0_0, .int .u64 a0_1, .int .u64 a0_2, .int .i64 a0_3, .int .i64 a0_4] 37 (0, 0)) (by (with_reducible repeat (first | refine blk_drewN ?_ _ | refine blk_drew ?_ | refine blk_alloc ?_ _)); exact BK186.out) hb); have n3_ := Aside0.mk (blk_below (g := gb190) (o := .cells #[.int .i64 a1, .int .u64 (Int.tmod a2 3), .int .u64 (Int.tmod a3 3), .int .i64 t188, .int .i64 t189] 37 (0, 0)) (by (with_reducible repeat (first | refine blk_drewN ?_ _ | refine blk_drew ?_ | refine blk_alloc ?_ _)); exact BK190.out) hb); have n4_ := Aside0.mk (below_step (by repeat (first | (with_reducible first | exact HB.out | apply below_alloc | apply pw_below_drewN | apply below_drew1 | refine below_set ?_ GE186.out | refine below_set ?_ GE190.out) | exact HB.out)) hb); clear HO_39; clear HO_47; clear BK186; clear BK190; clear HB; have HO_39 := n0_; have HO_47 := n1_; have BK186 := n2_; have BK190 := n3_; have HB := n4_; clear n0_ n1_ n2_ n3_ n4_; (try clear hb); (try clear hb2); (try clear hk); (try clear hi)) | (go_at_call 26; (with_reducible refine (soundserviceref33_Begin.calls a1 (Int.tmod a2 2) (Int.tmod a3 2) (rd y192 x41_1) t230 t231 t232 t233 t234 _ A89.out).mono ?_); rintro e w94 ⟨rfl, hb⟩; have n0_ := Aside0.mk (Kd.R_below (by (with_reducible repeat (first | apply Kd.R_alloc | apply Kd.R_drewN | apply Kd.R_drew)); exact HO_39.out) hb); have n1_ := Aside0.mk (Kd.R_below (by (with_reducible repeat (first | apply Kd.R_alloc | apply Kd.R_drewN | apply Kd.R_drew)); exact HO_47.out) hb); have n2_ := Aside0.mk (blk_below (g := gb186) (o := .cells #[.int .i64 a0_0, .int .u64 a0_1, .int .u64 a0_2, .int .i64 a0_3, .int .i64 a0_4] 37 (0, 0)) (by (with_reducible repeat (first | refine blk_drewN ?_ _ | refine blk_drew ?_ | refine blk_alloc ?_ _)); exact BK186.out) hb); have n3_ := Aside0.mk (blk_below (g := gb190) (o := .cells #[.int .i64 a1, .int .u64 (Int.tmod a2 3), .int .u64 (Int.tmod a3 3), .int .i64 t188, .int .i64 t189] 37 (0, 0)) (by (with_reducible repeat (first | refine blk_drewN ?_ _ | refine blk_drew ?_ | refine blk_alloc ?_ _)); exact BK190.out) hb); have n4_ := Aside0.mk (below_step (by repeat (first | (with_reducible first | exact HB.out | apply below_alloc | apply pw_below_drewN | apply below_drew1 | refine below_set ?_ GE186.out | refine below_set ?_ GE190.out) | exact HB.out)) hb); clear HO_39; clear HO_47; clear BK186; clear BK190; clear HB; have HO_39 := n0_; have HO_47 := n1_; have BK186 := n2_; have BK190 := n3_; have HB := n4_; clear n0_ n1_ n2_ n3_ n4_; (try clear hb); (try clear hb2); (try clear hk); (try clear hi)))
                        go_ret
                        exact ⟨by first | rfl | (simp [errW_none, errW_some] <;> rfl) | (simp [*, errW_none, errW_some] <;> rfl), by repeat (first | (with_reducible first | exact HB.out | apply below_alloc | apply pw_below_drewN | apply below_drew1 | refine below_set ?_ GE186.out | refine below_set ?_ GE190.out) | exact HB.out)⟩
                      · rw [if_neg c90] at H
                        have c90b0 : (!(t225 == t230) || (!(t226 == t231) || (!(t227 == t232) || (!(t228 == t233) || (!(t229 == t234)))))) = false := by simpa using c90
                        clear c90
                        have H' := Aside0.mk H
                        clear H
                        go_wp2_with (first | ((with_reducible refine gate_callee (f := 25) rfl ?_); refine goesL_ (some 83) rfl rfl Try.func25 (by kernel_rfl) rfl #[.int .i64 a1, .int .u64 a2, .int .u64 a3, .int .i64 (rd y192 x41_1)] rfl (by (try simp only [List.map_toArray, List.map_cons, List.map_nil]); first | done | rfl | (simp only [List.length_drop, List.length_take]; rfl)) ?_; (with_reducible refine (plug_Begin.calls k2 a1 a2 a3 (rd y192 x41_1) t215 t216 t217 t218 t219 _ A83.out).mono ?_); rintro e w95 ⟨rfl, hb⟩; refine ⟨_, rfl, ?_⟩; have n0_ := Aside0.mk (Kd.R_below (by (with_reducible repeat (first | apply Kd.R_alloc | apply Kd.R_drewN | apply Kd.R_drew)); exact HO_39.out) hb); have n1_ := Aside0.mk (Kd.R_below (by (with_reducible repeat (first | apply Kd.R_alloc | apply Kd.R_drewN | apply Kd.R_drew)); exact HO_47.out) hb); have n2_ := Aside0.mk (blk_below (g := gb186) (o := .cells #[.int .i64 a0_0, .int .u64 a0_1, .int .u64 a0_2, .int .i64 a0_3, .int .i64 a0_4] 37 (0, 0)) (by (with_reducible repeat (first | refine blk_drewN ?_ _ | refine blk_drew ?_ | refine blk_alloc ?_ _)); exact BK186.out) hb); have n3_ := Aside0.mk (blk_below (g := gb190) (o := .cells #[.int .i64 a1, .int .u64 (Int.tmod a2 3), .int .u64 (Int.tmod a3 3), .int .i64 t188, .int .i64 t189] 37 (0, 0)) (by (with_reducible repeat (first | refine blk_drewN ?_ _ | refine blk_drew ?_ | refine blk_alloc ?_ _)); exact BK190.out) hb); have n4_ := Aside0.mk (below_step (by repeat (first | (with_reducible first | exact HB.out | apply below_alloc | apply pw_below_drewN | apply below_drew1 | refine below_set ?_ GE186.out | refine below_set ?_ GE190.out) | exact HB.out)) hb); clear HO_39; clear HO_47; clear BK186; clear BK190; clear HB; have HO_39 := n0_; have HO_47 := n1_; have BK186 := n2_; have BK190 := n3_; have HB := n4_; clear n0_ n1_ n2_ n3_ n4_; (try clear hb); (try clear hb2); (try clear hk); (try clear hi)) | ((with_reducible refine gate_callee (f := 26) rfl ?_); refine goesL_ (some 88) rfl rfl Try.func26 (by kernel_rfl) rfl #[.int .i64 a1, .int .u64 a2, .int .u64 a3, .int .i64 (rd y192 x41_1)] rfl (by (try simp only [List.map_toArray, List.map_cons, List.map_nil]); first | done | rfl | (simp only [List.length_drop, List.length_take]; rfl)) ?_; (with_reducible refine (soundserviceref33_Begin.calls a1 a2 a3 (rd y192 x41_1) t220 t221 t222 t223 t224 _ A84.out).mono ?_); rintro e w96 ⟨rfl, hb⟩; refine ⟨_, rfl, ?_⟩; have n0_ := Aside0.mk (Kd.R_below (by (with_reducible repeat (first | apply Kd.R_alloc | apply Kd.R_drewN | apply Kd.R_drew)); exact HO_39.out) hb); have n1_ := Aside0.mk (Kd.R_below (by (with_reducible repeat (first | apply Kd.R_alloc | apply Kd.R_drewN | apply Kd.R_drew)); exact HO_47.out) hb); have n2_ := Aside0.mk (blk_below (g := gb186) (o := .cells #[.int .i64 a0_0, .int .u64 a0_1, .int .u64 a0_2, .int .i64 a0_3, .int .i64 a0_4] 37 (0, 0)) (by (with_reducible repeat (first | refine blk_drewN ?_ _ | refine blk_drew ?_ | refine blk_alloc ?_ _)); exact BK186.out) hb); have n3_ := Aside0.mk (blk_below (g := gb190) (o := .cells #[.int .i64 a1, .int .u64 (Int.tmod a2 3), .int .u64 (Int.tmod a3 3), .int .i64 t188, .int .i64 t189] 37 (0, 0)) (by (with_reducible repeat (first | refine blk_drewN ?_ _ | refine blk_drew ?_ | refine blk_alloc ?_ _)); exact BK190.out) hb); have n4_ := Aside0.mk (below_step (by repeat (first | (with_reducible first | exact HB.out | apply below_alloc | apply pw_below_drewN | apply below_drew1 | refine below_set ?_ GE186.out | refine below_set ?_ GE190.out) | exact HB.out)) hb); clear HO_39; clear HO_47; clear BK186; clear BK190; clear HB; have HO_39 := n0_; have HO_47 := n1_; have BK186 := n2_; have BK190 := n3_; have HB := n4_; clear n0_ n1_ n2_ n3_ n4_; (try clear hb); (try clear hb2); (try clear hk); (try clear hi)) | (go_at_call 25; (with_reducible refine (plug_Begin.calls k2 a1 (Int.tmod a2 2) (Int.tmod a3 2) (rd y192 x41_1) t225 t226 t227 t228 t229 _ A88.out).mono ?_); rintro e w97 ⟨rfl, hb⟩; have n0_ := Aside0.mk (Kd.R_below (by (with_reducible repeat (first | apply Kd.R_alloc | apply Kd.R_drewN | apply Kd.R_drew)); exact HO_39.out) hb); have n1_ := Aside0.mk (Kd.R_below (by (with_reducible repeat (first | apply Kd.R_alloc | apply Kd.R_drewN | apply Kd.R_drew)); exact HO_47.out) hb); have n2_ := Aside0.mk (blk_below (g := gb186) (o := .cells #[.int .i64 a0_0, .int .u64 a0_1, .int .u64 a0_2, .int .i64 a0_3, .int .i64 a0_4] 37 (0, 0)) (by (with_reducible repeat (first | refine blk_drewN ?_ _ | refine blk_drew ?_ | refine blk_alloc ?_ _)); exact BK186.out) hb); have n3_ := Aside0.mk (blk_below (g := gb190) (o := .cells #[.int .i64 a1, .int .u64 (Int.tmod a2 3), .int .u64 (Int.tmod a3 3), .int .i64 t188, .int .i64 t189] 37 (0, 0)) (by (with_reducible repeat (first | refine blk_drewN ?_ _ | refine blk_drew ?_ | refine blk_alloc ?_ _)); exact BK190.out) hb); have n4_ := Aside0.mk (below_step (by repeat (first | (with_reducible first | exact HB.out | apply below_alloc | apply pw_below_drewN | apply below_drew1 | refine below_set ?_ GE186.out | refine below_set ?_ GE190.out) | exact HB.out)) hb); clear HO_39; clear HO_47; clear BK186; clear BK190; clear HB; have HO_39 := n0_; have HO_47 := n1_; have BK186 := n2_; have BK190 := n3_; have HB := n4_; clear n0_ n1_ n2_ n3_ n4_; (try clear hb); (try clear hb2); (try clear hk); (try clear hi)) | (go_at_call 26; (with_reducible refine (soundserviceref33_Begin.calls a1 (Int.tmod a2 2) (Int.tmod a3 2) (rd y192 x41_1) t230 t231 t232 t233 t234 _ A89.out).mono ?_); rintro e w98 ⟨rfl, hb⟩; have n0_ := Aside0.mk (Kd.R_below (by (with_reducible repeat (first | apply Kd.R_alloc | apply Kd.R_drewN | apply Kd.R_drew)); exact HO_39.out) hb); have n1_ := Aside0.mk (Kd.R_below (by (with_reducible repeat (first | apply Kd.R_alloc | apply Kd.R_drewN | apply Kd.R_drew)); exact HO_47.out) hb); have n2_ := Aside0.mk (blk_below (g := gb186) (o := .cells #[.int .i64 a0_0, .int .u64 a0_1, .int .u64 a0_2, .int .i64 a0_3, .int .i64 a0_4] 37 (0, 0)) (by (with_reducible repeat (first | refine blk_drewN ?_ _ | refine blk_drew ?_ | refine blk_alloc ?_ _)); exact BK186.out) hb); have n3_ := Aside0.mk (blk_below (g := gb190) (o := .cells #[.int .i64 a1, .int .u64 (Int.tmod a2 3), .int .u64 (Int.tmod a3 3), .int .i64 t188, .int .i64 t189] 37 (0, 0)) (by (with_reducible repeat (first | refine blk_drewN ?_ _ | refine blk_drew ?_ | refine blk_alloc ?_ _)); exact BK190.out) hb); have n4_ := Aside0.mk (below_step (by repeat (first | (with_reducible first | exact HB.out | apply below_alloc | apply pw_below_drewN | apply below_drew1 | refine below_set ?_ GE186.out | refine below_set ?_ GE190.out) | exact HB.out)) hb); clear HO_39; clear HO_47; clear BK186; clear BK190; clear HB; have HO_39 := n0_; have HO_47 := n1_; have BK186 := n2_; have BK190 := n3_; have HB := n4_; clear n0_ n1_ n2_ n3_ n4_; (try clear hb); (try clear hb2); (try clear hk); (try clear hi)))
                        go_roundg k2
                        case measure => have := HK1.out; have := HK2.out; omega
                        case rel => exact ⟨(wrap64 (x41_1 + 1)), (by first | rfl | (simp; done) | (simp [*]; done)), H', ⟨by have := HK1.out; have := HK2.out; omega⟩, ⟨by (with_reducible repeat (first | apply Kd.R_alloc | apply Kd.R_drewN | apply Kd.R_drew)); exact HO_39.out⟩, ⟨by (with_reducible repeat (first | refine blk_drewN ?_ _ | refine blk_drew ?_ | refine blk_alloc ?_ _)); exact BK186.out⟩, ⟨by (with_reducible repeat (first | refine blk_drewN ?_ _ | refine blk_drew ?_ | refine blk_alloc ?_ _)); exact BK190.out⟩, ⟨by repeat (first | (with_reducible first | exact HB.out | apply below_alloc | apply pw_below_drewN | apply below_drew1 | refine below_set ?_ GE186.out | refine below_set ?_ GE190.out) | exact HB.out)⟩⟩
            · rw [if_neg c22] at H
              exact absurd H (by simp)
          · rw [if_neg c21] at H
            exact absurd H (by simp)
        · rw [if_neg c20] at H
          have c20b0 : decide (x41_1 < (y192.length : Int)) = false := decide_eq_false c20
          clear c20
          obtain rfl := Option.some.inj H
          go_wp2
          go_ret
          exact ⟨by first | rfl | (simp [errW_none, errW_some] <;> rfl) | (simp [*, errW_none, errW_some] <;> rfl), by repeat (first | (with_reducible first | exact HB.out | apply below_alloc | apply pw_below_drewN | apply below_drew1 | refine below_set ?_ GE186.out | refine below_set ?_ GE190.out) | exact HB.out)⟩
  · replace c8 := Bool.eq_false_iff.mpr c8
    subst c8
    have H1 : (some false) = some r := by rw [if_neg (show ¬ (false = true) by decide)] at H; exact H
    clear H
    have H := H1
    clear H1
    obtain rfl := Option.some.inj H
    go_enter Try.func6, Try.ntmps6
    go_wp2_with (first | ((with_reducible refine gate_dst (N := 6) rfl ?_); refine box_event ?hg (N := 6) ?hd (cs := #[.int .i64 a0_0, .int .u64 a0_1, .int .u64 a0_2, .int .i64 a0_3, .int .i64 a0_4]) (t := 37) ?hr ?_; (case hd => rfl); (case hg => rfl); (case hr => first | (go_simp; done) | (go_simp; rfl)); intro gb186 hg w99 hbox hb; have n0_ := Aside0.mk (below_step (by repeat (first | (with_reducible first | exact HB.out | apply below_alloc | apply pw_below_drewN | apply below_drew1) | exact HB.out)) hb); have n1_ := Aside0.mk (hbox); have n2_ := Aside0.mk ((by rw [hg]; exact (below_size (by repeat (first | (with_reducible first | exact HB.out | apply below_alloc | apply pw_below_drewN | apply below_drew1) | exact HB.out))) : w.heap.size ≤ gb186)); have n3_ := Aside0.mk ((by rw [hg]; exact (below_size (by repeat (first | (with_reducible first | exact HB.out | apply below_alloc | apply pw_below_drewN | apply below_drew1) | exact HB.out))) : w.heap.size ≤ gb186)); clear HB; have HB := n0_; have BK186 := n1_; have GW186 := n2_; have GE186 := n3_; clear n0_ n1_ n2_ n3_; clear hb hbox hg) | ((with_reducible refine gate_callee (f := 20) rfl ?_); refine goesL_ (some 22) rfl rfl Try.func20 (by kernel_rfl) rfl #[] rfl (by (try simp only [List.map_toArray, List.map_cons, List.map_nil]); first | done | rfl | (simp only [List.length_drop, List.length_take]; rfl)) ?_; (with_reducible refine (soundservicelaw33_sane.calls k  false _ A7.out).mono ?_); rintro e w100 ⟨rfl, hb⟩; refine ⟨_, rfl, ?_⟩; have n0_ := Aside0.mk (blk_below (g := gb186) (o := .cells #[.int .i64 a0_0, .int .u64 a0_1, .int .u64 a0_2, .int .i64 a0_3, .int .i64 a0_4] 37 (0, 0)) (by (with_reducible repeat (first | refine blk_drewN ?_ _ | refine blk_drew ?_ | refine blk_alloc ?_ _)); exact BK186.out) hb); have n1_ := Aside0.mk (below_step (by repeat (first | (with_reducible first | exact HB.out | apply below_alloc | apply pw_below_drewN | apply below_drew1 | refine below_set ?_ GE186.out) | exact HB.out)) hb); clear BK186; clear HB; have BK186 := n0_; have HB := n1_; clear n0_ n1_; (try clear hb); (try clear hb2); (try clear hk); (try clear hi)))
    go_ret
    exact ⟨by first | rfl | (simp [errW_none, errW_some] <;> rfl) | (simp [*, errW_none, errW_some] <;> rfl), by repeat (first | (with_reducible first | exact HB.out | apply below_alloc | apply pw_below_drewN | apply below_drew1 | refine below_set ?_ GE186.out) | exact HB.out)⟩

end Go.Proofs.Ytobcpkeapjflhaa.Q
