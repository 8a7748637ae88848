-- Declarations of the text that this claim uses (slim.py, a program of this session).
import Derived.Test.YtobcpkeapjflhaaZSl0
import Derived.Test.YtobcpkeapjflhaaProg
import Derived.WalkKit
import Derived.KernelRfl
import Derived.Deep.RegionLaw
import Derived.ChangeAlike
import Derived.Lib.Hide
namespace Go.Proofs.YtobcpkeapjflhaaSlSg
open Go Go.RowKit Go.Lib Go.Proofs Go.Proofs.YtobcpkeapjflhaaSl
set_option linter.unusedVariables false
set_option linter.unusedSimpArgs false
theorem infoE : (Try.prog.info? 68).map (fun i => (i.zero, i.size, i.bytes)) = some (some (.agg #[(.int .u64 0), (.int .i64 0)]), 2, 16) := by kernel_rfl
theorem sizeE : (Try.prog.info? 68).map (·.size) = some 2 := by
  obtain ⟨i0, hi0, hz0, hzs, hzb⟩ := info_parts infoE
  rw [hi0]; simp [hzs]
theorem sizeOfE (w : World) : (sizeOf 68).run Try.prog w = .ok 2 w := by
  obtain ⟨i0, hi0, hz0, hzs, hzb⟩ := info_parts infoE
  simp [sizeOf, typeInfo, hi0, hzs]
set_option maxHeartbeats 4000000 in
set_option maxRecDepth 100000 in
theorem ins_shift (g n c i vc : Nat) (va : Addr) (cur : Array Value) (vs : List Value) (w : World) (tA : TypeId) (kA : Nat) (hi : i < n) (hroom : n + 1 ≤ c) (hc63 : c ≤ 9223372036854775807)
    (hg : w.heap[g]? = some (.cells cur 68 (0, 0))) (hcs : cur.size = c * 2) (h1c : ∀ v ∈ cur.toList.take (n * 2), v.oneCell' = true)
    (hvl : vs.length = 2) (hvs : ∀ j v, vs[j]? = some v → w.cell? (va.add j) = some v) (h1v : ∀ v ∈ vs, v.oneCell' = true) (hvb : va.block ≠ g) (hsa : w.shape? va.block = some (tA, kA + 1)) :
    Calls Try.prog 47 #[.slice (some ⟨g, 0, none⟩) n c, .int .i64 i, .slice (some va) 1 vc] w fun e w' =>
      e = .returned (.slice (some ⟨g, 0, none⟩) (n + 1) c) ∧ ∃ cur' : Array Value, w' = w.drew.setRow g cur' ∧ cur'.size = c * 2 ∧ cur'.toList.take ((n + 1) * 2) = cur.toList.take (i * 2) ++ vs ++ (cur.toList.take (n * 2)).drop (i * 2) := by
  have hz2 : ¬ ((i : Int) = (n : Int)) := by omega
  have hov : ∀ lb cb, (callFunc 55 #[.slice (some va) 1 vc, .slice (some ⟨g, (i + 1) * 2, none⟩) lb cb]).run Try.prog w = .ok (.value (.bool false)) w := fun lb cb => by
    rw [run_callFunc_extern Try.func55 (by kernel_rfl) (by kernel_rfl) (by kernel_rfl) (e := Extern.SlicesOverlaps.overlaps #[45, 45] #[4]) (by kernel_rfl),
      run_overlaps_own w 45 4 68 Try.underlying45 2 sizeOfE va ⟨g, (i + 1) * 2, none⟩ 1 vc lb cb hvb tA _ kA hsa cur hg (by omega)]
    rfl
  -- the two copies
  obtain ⟨c1, hc1⟩ : ∃ c1 : Array Value, c1 = (cur.toList.take ((i + 1) * 2) ++ (cur.toList.take (n * 2)).drop (i * 2) ++ cur.toList.drop ((i + 1) * 2 + ((cur.toList.take (n * 2)).drop (i * 2)).length)).toArray := ⟨_, rfl⟩
  have hml : ((cur.toList.take (n * 2)).drop (i * 2)).length = (n - i) * 2 := by
    rw [List.length_drop, List.length_take, Array.length_toList]; omega
  have hcp1 : ∀ ty dc sc, (Builtin.copy_ #[45, 45] ty #[.slice (some ⟨g, (i + 1) * 2, none⟩) (n - i) dc, .slice (some ⟨g, i * 2, none⟩) (n + 1 - i) sc]).run Try.prog w.drew = .ok (goInt ((n - i : Nat) : Int)) (w.drew.setRow g c1) := fun ty dc sc => by
    have h := run_copy_row_k (P := Try.prog) w.drew 45 45 ty 68 2 g ((i + 1) * 2) (n - i) dc ⟨g, i * 2, none⟩ (n + 1 - i) sc cur 68 ((cur.toList.take (n * 2)).drop (i * 2)) Try.underlying45 sizeE hg
      (by rw [hml]; congr 1; simp only [Nat.min_def]; split <;> omega)
      (fun j v hj => by
        have hjl : j < (n - i) * 2 := by rw [← hml]; exact (List.getElem?_eq_some_iff.1 hj).1
        rw [List.getElem?_drop, List.getElem?_take, if_pos (by omega), Array.getElem?_toList] at hj
        rw [Addr.add_lit]
        simp only [World.cell?, show w.drew.heap = w.heap from rfl, hg]
        exact hj)
      (by rw [hml]; omega) (fun v hv => h1c v (List.mem_of_mem_drop hv))
    rw [show Nat.min (n + 1 - i) (n - i) = n - i by simp only [Nat.min_def]; split <;> omega] at h
    rw [hc1]; exact h
  have hg1 : (w.drew.setRow g c1).heap[g]? = some (.cells c1 68 (0, 0)) := setRow_heap w.drew g cur c1 68 _ hg
  have hc1s : c1.size = c * 2 := by
    rw [hc1, List.size_toArray, List.length_append, List.length_append, List.length_take, hml, List.length_drop, Array.length_toList]
    have : (i + 1) * 2 + (n - i) * 2 ≤ cur.size := by omega
    omega
  obtain ⟨c2, hc2⟩ : ∃ c2 : Array Value, c2 = (c1.toList.take (i * 2) ++ vs ++ c1.toList.drop (i * 2 + vs.length)).toArray := ⟨_, rfl⟩
  have hcp2 : ∀ (W : World), W.heap = (w.drew.setRow g c1).heap → ∀ ty dc, (Builtin.copy_ #[45, 45] ty #[.slice (some ⟨g, i * 2, none⟩) (n + 1 - i) dc, .slice (some va) 1 vc]).run Try.prog W = .ok (goInt 1) (W.setRow g c2) := fun W hW ty dc => by
    have h := run_copy_row_k (P := Try.prog) W 45 45 ty 68 2 g (i * 2) (n + 1 - i) dc va 1 vc c1 68 vs Try.underlying45 sizeE (by rw [hW]; exact hg1)
      (by rw [hvl]; simp only [Nat.min_def]; split <;> omega)
      (fun j v hj => by
        have h0 := hvs j v hj
        have hb : (va.add j).block = va.block := by unfold Addr.add; split <;> rfl
        rw [show W.cell? (va.add j) = w.cell? (va.add j) from by
          have h1 : (w.drew.setRow g c1).heap[(va.add j).block]? = w.heap[(va.add j).block]? := setRow_other w.drew g _ c1 (by rw [hb]; exact hvb)
          unfold World.cell?
          rw [hW, h1]]
        exact h0)
      (by rw [hvl]; omega) h1v
    rw [show Nat.min 1 (n + 1 - i) = 1 by simp only [Nat.min_def]; split <;> omega] at h
    rw [hc2]; exact h
  obtain ⟨hL1, hL2⟩ := ins_lists cur.toList vs ((cur.toList.take (n * 2)).drop (i * 2)) (i * 2) 2 (n * 2) hvl rfl (by omega) (by rw [Array.length_toList]; omega)
  have e1 : (i + 1) * 2 = i * 2 + 2 := by omega
  have e2 : (n + 1) * 2 = n * 2 + 2 := by omega
  have hc2s : c2.size = c * 2 := by
    rw [hc2, hc1, e1, List.size_toArray]
    exact hL1.trans (by rw [Array.length_toList, hcs])
  have hc2t : c2.toList.take ((n + 1) * 2) = cur.toList.take (i * 2) ++ vs ++ (cur.toList.take (n * 2)).drop (i * 2) := by
    rw [hc2, hc1, e1, e2]
    exact hL2
  clear hL1 hL2 e1 e2
  have HC2 := Lib.hid (And.intro hc2s hc2t)
  clear hc2s hc2t hc1 hc2
  have hb2 : ¬ (c = i + 1) := by omega
  have hb4 : ¬ (c = i) := by omega
  have hin : i ≤ n := by omega
  have hnc : n ≤ c := by omega
  have hin1 : i ≤ n + 1 := by omega
  have htn : ((i : Int) + 1).toNat = i + 1 := by omega
  have hb1 : (0 : Int) ≤ (i : Int) + 1 := by omega
  have hb3 : (i : Int) ≤ (n : Int) + 1 := by omega
  have hb5 : (i : Int) + 1 ≤ (n : Int) + 1 := by omega
  have hw1 : IntKind.i64.wrap ((i : Int) + 1) = (i : Int) + 1 := by rw [IntKind.wrap_i64]; omega
  clear hg hg1 hcs hc1s hml h1c hvs hsa
  go_enter Try.func47, Try.ntmps47
  go_wp2_with (simp only [hov])
  go_region_law (refine step_copy_run rfl _ _ 45 45 rfl _ _ (by simp [Act.eval, Act.put]) (by simp [Act.eval, Act.put]) (hcp1 _ _ _) ?_)
  go_wp2_with (at_builtin; refine wpList_copy_run _ rfl _ _ 45 45 rfl _ _ rfl rfl (hcp2 _ rfl _ _) ?_)
  go_ret
  exact ⟨rfl, c2, by rw [setRow_setRow], HC2.out⟩
set_option maxHeartbeats 4000000 in
set_option maxRecDepth 100000 in
theorem ins_grow (g n c i vc : Nat) (va : Addr) (cur : Array Value) (vs : List Value) (w : World) (hi : i < n) (hnc : n ≤ c) (hroom : c < n + 1) (hbig : (n + 1) * 16 ≤ 140737488355328)
    (hg : w.heap[g]? = some (.cells cur 68 (0, 0))) (hcs : cur.size = c * 2) (h1c : ∀ v ∈ cur.toList.take (n * 2), v.oneCell' = true)
    (hvl : vs.length = 2) (hvs : ∀ j v, vs[j]? = some v → w.cell? (va.add j) = some v) (h1v : ∀ v ∈ vs, v.oneCell' = true) (hvw : va.block < w.heap.size) :
    Calls Try.prog 47 #[.slice (some ⟨g, 0, none⟩) n c, .int .i64 i, .slice (some va) 1 vc] w fun e w' =>
      ∃ G cur', e = .returned (.slice (some ⟨w.heap.size, 0, none⟩) (n + 1) G) ∧ n + 1 ≤ G ∧ G ≤ maxLen ∧ w'.heap[w.heap.size]? = some (.cells cur' 68 (0, 0)) ∧ cur'.size = G * 2 ∧
        cur'.toList.take ((n + 1) * 2) = cur.toList.take (i * 2) ++ vs ++ (cur.toList.take (n * 2)).drop (i * 2) ∧ w.grownBy w' none := by
  obtain ⟨i0, hi0, hz0, hzs, hzb⟩ := info_parts infoE
  have hz2 : ¬ ((i : Int) = (n : Int)) := by omega
  have hz3 : (c : Int) < (n : Int) + 1 := by omega
  have hgw : g < w.heap.size := (Array.getElem?_eq_some_iff.1 hg).1
  have hkk : (n : Int) + 1 - (i : Int) = ((n + 1 - i : Nat) : Int) := by omega
  have hik : i + (n + 1 - i) = n + 1 := by omega
  have hcl : cur.toList.length = c * 2 := by rw [Array.length_toList, hcs]
  have hold : (Builtin.firstCells i0.size i (.slice (some ⟨g, 0, none⟩) i c)).run Try.prog w.drew = .ok (cur.toList.take (i * 2)).toArray w.drew := by
    rw [hzs]
    exact run_firstCells_some w.drew 2 i ⟨g, 0, none⟩ i c (cur.toList.take (i * 2)) (by rw [List.length_take]; omega) (fun j v hj => by
      rw [Addr.add_lit, Nat.zero_add]
      rw [List.getElem?_take] at hj
      split at hj
      · rw [Array.getElem?_toList] at hj
        simp only [World.cell?, show w.drew.heap = w.heap from rfl, hg]
        exact hj
      · cases hj)
  obtain ⟨G, hG⟩ : ∃ G, G = grownCap w (n + 1) c 68 := ⟨_, rfl⟩
  obtain ⟨ROW, hROW⟩ : ∃ ROW : Array Value, ROW = (cur.toList.take (i * 2)).toArray ++ Builtin.zeroCells (Value.cells (.agg #[(.int .u64 0), (.int .i64 0)])) (n + 1 - i) ++ Builtin.zeroCells (Value.cells (.agg #[(.int .u64 0), (.int .i64 0)])) (G - (n + 1)) := ⟨_, rfl⟩
  have hrz : ∀ ty, (Builtin.append_ #[45, 3] ty #[.slice (some ⟨g, 0, none⟩) i c, .int .i64 ((n : Int) + 1 - (i : Int))]).run Try.prog w =
      .ok (.slice (some ⟨w.heap.size, 0, none⟩) (n + 1) G) (w.drew.alloc (.cells ROW 68)) := fun ty => by
    have h := Lib.run_append_grow_zeros w 45 3 ty 68 i0 _ .i64 .i64 Try.underlying45 Try.underlying3 hi0 hz0 (some ⟨g, 0, none⟩) i c (cur.toList.take (i * 2)) hold (n + 1 - i) (by omega) (by omega) (by omega) (by omega) (by rw [hzb]; omega) (by rw [hzb, hik]; exact growslice_fits hroom hbig)
    rw [hik, ← hG] at h
    rw [hkk, hROW]
    exact h
  have hGn : n + 1 ≤ G := by rw [hG]; exact grownCap_ge w _ _ _
  have hGm : G ≤ maxLen := by rw [hG]; exact grownCap_le_maxLen w (n + 1) c 68 (by unfold maxLen; omega)
  have hRs : ROW.size = G * 2 := by
    rw [hROW]
    simp only [Array.size_append, List.size_toArray, List.length_take, hcl, size_zeroCells]
    simp only [Value.cells, List.size_toArray, List.length_cons, List.length_nil]
    omega
  have hRt : ROW.toList.take (i * 2) = cur.toList.take (i * 2) := by
    rw [hROW, Array.toList_append, Array.toList_append, List.append_assoc, List.take_append_of_le_length (by rw [List.length_take]; omega), List.take_of_length_le (by rw [List.length_take]; omega)]
  obtain ⟨M, hM⟩ : ∃ M, M = (cur.toList.take (n * 2)).drop (i * 2) := ⟨_, rfl⟩
  have hml : M.length = (n - i) * 2 := by
    rw [hM, List.length_drop, List.length_take, Array.length_toList]; omega
  have hMs : ∀ j v, M[j]? = some v → w.cell? ⟨g, i * 2 + j, none⟩ = some v := fun j v hj => by
    have hjl : j < (n - i) * 2 := by rw [← hml]; exact (List.getElem?_eq_some_iff.1 hj).1
    rw [hM, List.getElem?_drop, List.getElem?_take, if_pos (by omega), Array.getElem?_toList] at hj
    simp only [World.cell?, hg]
    exact hj
  obtain ⟨W1, hW1⟩ : ∃ W1, W1 = w.drew.alloc (.cells ROW 68) := ⟨_, rfl⟩
  rw [← hW1] at hrz
  have hW1h : W1.heap[w.heap.size]? = some (.cells ROW 68 (0, 0)) := by rw [hW1]; exact heap_alloc_new w.drew _
  have hW1o : ∀ k, k < w.heap.size → W1.heap[k]? = w.heap[k]? := fun k hk => by rw [hW1]; exact heap_alloc_old w.drew _ hk
  obtain ⟨c1, hc1⟩ : ∃ c1 : Array Value, c1 = (ROW.toList.take (i * 2) ++ vs ++ ROW.toList.drop (i * 2 + vs.length)).toArray := ⟨_, rfl⟩
  have hcpA : ∀ (W : World), W.heap = W1.heap → ∀ ty dc, (Builtin.copy_ #[45, 45] ty #[.slice (some ⟨w.heap.size, i * 2, none⟩) (n + 1 - i) dc, .slice (some va) 1 vc]).run Try.prog W = .ok (goInt 1) (W.setRow w.heap.size c1) := fun W hW ty dc => by
    have h := run_copy_row_k (P := Try.prog) W 45 45 ty 68 2 w.heap.size (i * 2) (n + 1 - i) dc va 1 vc ROW 68 vs Try.underlying45 sizeE (by rw [hW]; exact hW1h)
      (by rw [hvl]; simp only [Nat.min_def]; split <;> omega)
      (fun j v hj => by
        have h0 := hvs j v hj
        have hb : (va.add j).block = va.block := by unfold Addr.add; split <;> rfl
        rw [show W.cell? (va.add j) = w.cell? (va.add j) from by
          have h1 := hW1o (va.add j).block (by rw [hb]; exact hvw)
          unfold World.cell?
          rw [hW, h1]]
        exact h0)
      (by rw [hvl]; omega) h1v
    rw [show Nat.min 1 (n + 1 - i) = 1 by simp only [Nat.min_def]; split <;> omega] at h
    rw [hc1]; exact h
  obtain ⟨c2, hc2⟩ : ∃ c2 : Array Value, c2 = (c1.toList.take ((i + 1) * 2) ++ M ++ c1.toList.drop ((i + 1) * 2 + M.length)).toArray := ⟨_, rfl⟩
  have hc1s : c1.size = ROW.size := by
    rw [hc1, List.size_toArray, List.length_append, List.length_append, List.length_take, List.length_drop, Array.length_toList, hvl]; omega
  have hcpB : ∀ (W : World), W.heap = (W1.setRow w.heap.size c1).heap → ∀ ty dc sc, (Builtin.copy_ #[45, 45] ty #[.slice (some ⟨w.heap.size, (i + 1) * 2, none⟩) (n - i) dc, .slice (some ⟨g, i * 2, none⟩) (n - i) sc]).run Try.prog W = .ok (goInt ((n - i : Nat) : Int)) (W.setRow w.heap.size c2) := fun W hW ty dc sc => by
    have h := run_copy_row_k (P := Try.prog) W 45 45 ty 68 2 w.heap.size ((i + 1) * 2) (n - i) dc ⟨g, i * 2, none⟩ (n - i) sc c1 68 M Try.underlying45 sizeE (by rw [hW]; exact setRow_heap W1 _ _ _ _ _ hW1h)
      (by rw [hml]; congr 1; simp only [Nat.min_def]; split <;> omega)
      (fun j v hj => by
        rw [Addr.add_lit]
        have h1 : (W1.setRow w.heap.size c1).heap[g]? = w.heap[g]? := (setRow_other W1 _ g c1 (by omega)).trans (hW1o g hgw)
        exact (World.cell?_of_block (by rw [hW]; exact h1)).trans (hMs j v hj))
      (by rw [hml, hc1s]; omega) (fun v hv => h1c v (by rw [hM] at hv; exact List.mem_of_mem_drop hv))
    rw [show Nat.min (n - i) (n - i) = n - i by simp only [Nat.min_def]; split <;> omega] at h
    rw [hc2]; exact h
  obtain ⟨hL1, hL2⟩ := grow_lists ROW.toList vs M (i * 2) 2 hvl (by rw [hml, Array.length_toList, hRs]; omega)
  have e1 : (i + 1) * 2 = i * 2 + 2 := by omega
  have e2 : (n + 1) * 2 = i * 2 + 2 + M.length := by rw [hml]; omega
  have hc2s : c2.size = G * 2 := by
    rw [hc2, hc1, e1, List.size_toArray]
    exact hL1.trans (by rw [Array.length_toList, hRs])
  have hc2t : c2.toList.take ((n + 1) * 2) = cur.toList.take (i * 2) ++ vs ++ M := by
    rw [hc2, hc1, e1, e2, ← hRt]
    exact hL2
  have HC2 := Lib.hid (And.intro hc2s (And.intro hc2t (And.intro hGn (And.intro hGm (And.intro hW1h hW1o)))))
  subst hM
  have hGi : ¬ (G = i) := by omega
  have hGim : ¬ (G = i + 1) := by omega
  have hci : ¬ (c = i) := by omega
  have hG63 : G ≤ 9223372036854775807 := by unfold maxLen at hGm; exact hGm
  have hin : i ≤ n := by omega
  have htn : ((i : Int) + 1).toNat = i + 1 := by omega
  have hb1 : (0 : Int) ≤ (i : Int) + 1 := by omega
  have hb3 : (i : Int) ≤ (n : Int) := by omega
  have hb5 : (i : Int) + 1 ≤ (G : Int) := by omega
  have hw1 : IntKind.i64.wrap ((i : Int) + 1) = (i : Int) + 1 := by rw [IntKind.wrap_i64]; omega
  have HW1 : Hid (w.grownBy W1 none) := by rw [hW1]; exact ⟨rfl, rfl, rfl, by simp, fun k hk _ => heap_alloc_old w.drew _ hk⟩
  clear hL1 hL2 e1 e2 hc2s hc2t hRt hRs hROW hG hkk hik hold hcl hml hMs hc1s hW1h hW1o hGm hz0 hzs hzb hW1 hc1 hc2
  go_enter Try.func47, Try.ntmps47
  go_wp2_with (first
    | (at_builtin; refine Lib.wpList_append_run _ rfl _ _ _ _ rfl _ _ rfl rfl _ _ (hrz _) ?_)
    | (at_builtin; refine wpList_copy_run _ rfl _ _ 45 45 rfl _ _ rfl rfl (hcpA _ rfl _ _) ?_)
    | (at_builtin; refine wpList_copy_run _ rfl _ _ 45 45 rfl _ _ rfl rfl (hcpB _ rfl _ _ _) ?_))
  go_region_law (refine step_copy_run rfl _ _ 45 45 rfl (.slice (some ⟨w.heap.size, (i + 1) * 2, none⟩) (n - i) (G - (i + 1))) (.slice (some ⟨g, i * 2, none⟩) (n - i) (c - i)) (by simp [Act.eval, Act.put]) (by simp [Act.eval, Act.put]) (hcpB (W1.setRow w.heap.size c1).drew rfl _ _ _) ?_)
  go_wp2
  go_ret
  obtain ⟨a1, a2, a3, a4, a5, a6⟩ := HC2.out
  refine ⟨G, c2, rfl, a3, a4, setRow_heap _ _ c1 c2 68 (0, 0) (setRow_heap W1 _ _ c1 68 (0, 0) a5), a1, a2, ?_⟩
  have hr : ∀ (W : World) (cs : Array Value), w.grownBy W none → w.grownBy (W.setRow w.heap.size cs) none := fun W cs h =>
    ⟨h.os, h.tape, h.output, by simpa [World.setRow] using h.size, fun k hk hne => (setRow_other W _ k cs (by omega)).trans (h.block k hk hne)⟩
  have hd : ∀ (W : World), w.grownBy W none → w.grownBy W.drew none := fun W h => ⟨h.os, h.tape, h.output, h.size, h.block⟩
  exact hr _ _ (hd _ (hr _ _ HW1.out))
theorem ins_mid (base : Nat) (v : Value) (n i vc : Nat) (va : Addr) (xs vs : List Value) (w : World) (tA : TypeId) (kA : Nat) (hown : w.ownsRow base 68 2 v n xs) (hi : i < n) (hbig : (n + 1) * 16 ≤ 140737488355328) (hbase : base ≤ w.heap.size)
    (h1x : ∀ u ∈ xs, u.oneCell' = true) (hvl : vs.length = 2) (hvs : ∀ j v, vs[j]? = some v → w.cell? (va.add j) = some v) (h1v : ∀ v ∈ vs, v.oneCell' = true)
    (hne : ∀ g, v.ownBlock = some g → va.block ≠ g) (hsa : w.shape? va.block = some (tA, kA + 1)) :
    Calls Try.prog 47 #[v, .int .i64 i, .slice (some va) 1 vc] w fun e w' =>
      ∃ v', e = .returned v' ∧ w'.ownsRow base 68 2 v' (n + 1) (xs.take (i * 2) ++ vs ++ xs.drop (i * 2)) ∧ w.grownBy w' v.ownBlock ∧ (v'.ownBlock = v.ownBlock ∨ ∃ b, v'.ownBlock = some b ∧ w.heap.size ≤ b) := by
  have hxl : xs.length = n * 2 := hown.1
  rcases hown.2 with ⟨_, h0⟩ | ⟨g, c, cur, rfl, hbg, hg, hnc, hcm, hcs, htake⟩
  · omega
  have hvw : va.block < w.heap.size := by
    rcases Nat.lt_or_ge va.block w.heap.size with h | h
    · exact h
    · rw [World.shape?, Array.getElem?_eq_none h] at hsa
      cases hsa
  have hlen : ∀ u : Nat, (xs.take (i * 2) ++ vs ++ xs.drop (i * 2)).length = (n + 1) * 2 := fun _ => by
    simp only [List.length_append, List.length_take, List.length_drop, hxl, hvl]; omega
  rcases Nat.lt_or_ge c (n + 1) with hroom | hroom
  · refine (ins_grow g n c i vc va cur vs w hi hnc hroom hbig hg hcs (by rw [htake]; exact h1x) hvl hvs h1v hvw).mono ?_
    rintro e w' ⟨G, cur', rfl, h1, h2, h3, h4, h5, h6⟩
    refine ⟨_, rfl, ⟨hlen 0, .inr ⟨w.heap.size, G, cur', rfl, hbase, h3, h1, h2, h4, ?_⟩⟩, ⟨h6.os, h6.tape, h6.output, h6.size, fun k hk _ => h6.block k hk (by simp)⟩, .inr ⟨_, rfl, Nat.le_refl _⟩⟩
    rw [h5, htake, ← htake, List.take_take]
    congr 2
    rw [Nat.min_eq_left (by omega)]
  · refine (ins_shift g n c i vc va cur vs w tA kA hi hroom (by unfold maxLen at hcm; exact hcm) hg hcs (by rw [htake]; exact h1x) hvl hvs h1v (hne g rfl) hsa).mono ?_
    rintro e w' ⟨rfl, cur', rfl, h4, h5⟩
    refine ⟨_, rfl, ⟨hlen 0, .inr ⟨g, c, cur', rfl, hbg, setRow_heap w.drew g cur cur' _ _ hg, hroom, hcm, h4, ?_⟩⟩, ⟨rfl, rfl, rfl, by simp [World.setRow], fun k _ hk => setRow_other w.drew g k _ (fun e => hk (by simp [Value.ownBlock, e]))⟩, .inl rfl⟩
    rw [h5, htake, ← htake, List.take_take]
    congr 2
    rw [Nat.min_eq_left (by omega)]
end Go.Proofs.YtobcpkeapjflhaaSlSg
