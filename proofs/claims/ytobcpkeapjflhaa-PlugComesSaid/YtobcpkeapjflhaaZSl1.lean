-- Declarations of the text that this claim uses (slim.py, a program of this session).
import Derived.Test.YtobcpkeapjflhaaZSl0
import Derived.Test.YtobcpkeapjflhaaZWWords
import Derived.Test.YtobcpkeapjflhaaZWKept
import Derived.Test.YtobcpkeapjflhaaZWShare
import Derived.Test.YtobcpkeapjflhaaZWZeros
namespace Go.Proofs.YtobcpkeapjflhaaSl
open Go Go.RowKit Go.Proofs.YtobcpkeapjflhaaW.PrintWords
theorem reps_append {α : Type} {R : α → List Value → Prop} {size : Nat} {ps qs : List α} {cs ds : List Value} (h : Reps R size ps cs) (k : Reps R size qs ds) : Reps R size (ps ++ qs) (cs ++ ds) := by
  refine ⟨by rw [List.length_append, List.length_append, h.1, k.1, Nat.add_mul], fun j q hq => ?_⟩
  rcases Nat.lt_or_ge j ps.length with hj | hj
  · rw [List.getElem?_append_left hj] at hq
    have h1 : j * size + size ≤ cs.length := by rw [h.1, ← Nat.succ_mul]; exact Nat.mul_le_mul_right _ hj
    have h2 := h.2 j q hq
    rw [List.drop_append_of_le_length (by omega), List.take_append_of_le_length (by rw [List.length_drop]; omega)]
    exact h2
  · rw [List.getElem?_append_right hj] at hq
    have h2 := k.2 _ q hq
    have hle : ps.length * size ≤ j * size := Nat.mul_le_mul_right _ hj
    rw [List.drop_append, List.drop_eq_nil_of_le (by rw [h.1]; exact hle), List.nil_append, h.1, ← Nat.sub_mul]
    exact h2
theorem reps_take {α : Type} {R : α → List Value → Prop} {size : Nat} {ps : List α} {cs : List Value} (h : Reps R size ps cs) (i : Nat) : Reps R size (ps.take i) (cs.take (i * size)) := by
  refine ⟨by rw [List.length_take, List.length_take, h.1, ← Nat.mul_min_mul_right], fun j q hq => ?_⟩
  rw [List.getElem?_take] at hq
  split at hq
  · rename_i hji
    have h2 := h.2 j q hq
    have h3 : j * size + size ≤ i * size := by rw [← Nat.succ_mul]; exact Nat.mul_le_mul_right _ hji
    rw [List.drop_take, List.take_take, Nat.min_eq_left (by omega)]
    exact h2
  · cases hq
theorem reps_drop {α : Type} {R : α → List Value → Prop} {size : Nat} {ps : List α} {cs : List Value} (h : Reps R size ps cs) (i : Nat) : Reps R size (ps.drop i) (cs.drop (i * size)) := by
  refine ⟨by rw [List.length_drop, List.length_drop, h.1, Nat.sub_mul], fun j q hq => ?_⟩
  rw [List.getElem?_drop] at hq
  have h2 := h.2 _ q hq
  rw [List.drop_drop, ← Nat.add_mul]
  exact h2
theorem reps_one {α : Type} {R : α → List Value → Prop} {size : Nat} {p : α} {c : List Value} (hp : R p c) (hc : c.length = size) : Reps R size [p] c := by
  have := Reps.snoc (Reps.none R size) hp hc
  simpa using this
theorem reps_cells {α : Type} {R : α → List Value → Prop} {size : Nat} {ps : List α} {cs : List Value} (h : Reps R size ps cs) (hs : 0 < size) (h1 : ∀ p c, R p c → ∀ u ∈ c, u.oneCell' = true) : ∀ u ∈ cs, u.oneCell' = true := by
  intro u hu
  obtain ⟨j, hj, rfl⟩ := List.getElem_of_mem hu
  have hjl : j / size < ps.length := by rw [Nat.div_lt_iff_lt_mul hs, ← h.1]; exact hj
  have h2 := h.2 (j / size) _ (List.getElem?_eq_getElem hjl)
  refine h1 _ _ h2 _ ?_
  have e : j = j / size * size + j % size := by rw [Nat.mul_comm]; exact (Nat.div_add_mod j size).symm
  have hm : j % size < size := Nat.mod_lt _ hs
  refine List.mem_of_getElem? (i := j % size) ?_
  rw [List.getElem?_take, if_pos hm, List.getElem?_drop, ← e]
  exact List.getElem?_eq_getElem hj
theorem shape_of_cell {w : World} {a : Addr} {u : Value} (h : w.cell? a = some u) : ∃ t k, w.shape? a.block = some (t, k + 1) := by
  unfold World.cell? at h
  unfold World.shape?
  split at h
  · rename_i c t fr hh
    split at h
    · cases h
    · have hlt : a.off < c.size := by
        rcases Nat.lt_or_ge a.off c.size with h1 | h1
        · exact h1
        · rw [Array.getElem?_eq_none h1] at h; cases h
      exact ⟨t, c.size - 1, by simp only [Option.some.injEq, Prod.mk.injEq, true_and]; omega⟩
  · cases h
theorem apart_of_kept {w : World} {P : Nat → Prop} {g : Nat} (hg : P g) {a : Addr} {u : Value} (h : ∀ W, Kept w W P → W.cell? a = some u) : a.block ≠ g := by
  intro e
  have h0 := h w (Kept.refl w P)
  have h1 := h (w.setRow g #[]) ⟨by simp [World.setRow], fun k _ hk => setRow_other w g k _ (fun e2 => hk (by rw [e2]; exact hg))⟩
  unfold World.cell? at h0 h1
  split at h0
  · rename_i c t fr hh
    rw [e] at hh
    rw [e, setRow_heap w g c #[] t fr hh] at h1
    simp at h1
  · cases h0
theorem R_tail {α : Type} {d : Kd α} {e base : Nat} {ok : Nat → Prop} {w : World} {g m c : Nat} {xs : List α} (HO : d.R e w base ok (.slice (some ⟨g, 0, none⟩) m c) xs) :
    ∃ cur : Array Value, w.heap[g]? = some (.cells cur e (0, 0)) ∧ cur.size = c * d.sz ∧ xs.length = m ∧ m ≤ c ∧ c ≤ maxLen ∧ base ≤ g ∧ ∀ cur' : Array Value, cur'.size = cur.size → cur'.toList.take (m * d.sz) = cur.toList.take (m * d.sz) → d.R e (w.setRow g cur') base ok (.slice (some ⟨g, 0, none⟩) m c) xs := by
  obtain ⟨hok, inner, hown, hr⟩ := HO
  rcases hown.2 with ⟨hv, _⟩ | ⟨g', cap', cur, hv, hb, hh, hmc, hcm, hcs, htake⟩
  · cases hv
  injection hv with ha hm hc
  injection ha with ha
  injection ha with hg
  subst hg; subst hc
  refine ⟨cur, hh, hcs, hm.symm, by omega, hcm, hb, fun cur' hs ht => ⟨hok, inner, ⟨hown.1, .inr ⟨g, c, cur', by rw [hm], hb, setRow_heap w g cur cur' e _ hh, hmc, hcm, by rw [hs, hcs], ?_⟩⟩, hr.imp_ (fun p cs hp => d.M_move (fun k hk => setRow_other w g k _ (fun e2 => hk.2 (by simp [Value.ownBlock, e2]))) hp)⟩⟩
  rw [← hm, ht, hm]
  exact htake
end Go.Proofs.YtobcpkeapjflhaaSl
