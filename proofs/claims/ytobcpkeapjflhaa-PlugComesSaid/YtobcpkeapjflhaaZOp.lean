-- Declarations of the text that this claim uses (slim.py, a program of this session).
import Derived.Test.YtobcpkeapjflhaaZWWords
import Derived.Deep.Slices
import Derived.Deep.Fields
import Derived.ChangeSame
import Derived.ChangeArms
namespace Go.Proofs.Ytobcpkeapjflhaa.Op
open Go Go.RowKit Go.ChangeShapes Go.WideShapes Go.Deep Go.Proofs.YtobcpkeapjflhaaW.PrintWords
def Opn {α : Type} (P : Program) (d : Kd α) (t : TypeId) (Good : α → Prop) : Prop :=
  ∀ (H : Type) (enc : TypeId × Value → H) (w : World) (base : Nat) (spare : Nat → Bool) (held : Bool) (fuel : Nat) (cs : List Value) (x : DataW H × List MemPlace), DataW.trod enc P w base spare held fuel t cs = some x → ∃ a, d.K w a cs ∧ Good a
variable {P : Program}
theorem opn_int {t : TypeId} {k : IntKind} (ht : P.underlying t = some (.int k)) : Opn P (Kd.int k) t (fun n => (Lit.int k n).wf = true) := by
  intro H enc w base spare held fuel cs x h
  obtain ⟨n, rfl, _, hw⟩ := DataW.trod_int ht h
  exact ⟨n, rfl, hw⟩
theorem opn_slice {α : Type} [Inhabited α] {d : Kd α} {t e : TypeId} {Good : α → Prop} (ht : P.underlying t = some (.slice e)) (hsz : P.cellsOf e = d.sz) (hd : Opn P d e Good) :
    Opn P (Kd.slice e d) t (fun xs => xs.length ≤ maxLen ∧ ∀ x ∈ xs, Good x) := by
  intro H enc w base spare held fuel cs x h
  rcases open_slice ht h with ⟨rfl, _⟩ | ⟨a, len, cap, m, n, D, Pl, rfl, hb, hl, hm, hmm, _, hi⟩
  · exact ⟨[], ⟨none, 0, rfl, Nat.le_refl _, rfl, by simp, fun hn => by simp at hn⟩, by simp, fun _ hx => by simp at hx⟩
  · have hlm : len ≤ m := by rw [hmm]; split <;> omega
    have key : ∀ i, ∃ p : α, i < len → ∃ c : List Value, c.length = d.sz ∧ d.K w p c ∧ Good p ∧ ∀ j u, c[j]? = some u → w.cell? (a.add (i * d.sz + j)) = some u := by
      intro i
      by_cases hil : i < len
      · obtain ⟨cs', hc, htr⟩ := hi i (by omega)
        obtain ⟨p, hK, hg⟩ := hd H enc w base spare held n cs' _ htr
        obtain ⟨_, hcl, hat⟩ := World.cells?_some hc
        refine ⟨p, fun _ => ⟨cs', hcl.trans hsz, hK, hg, fun j u hu => ?_⟩⟩
        have hj : j < P.cellsOf e := by rw [← hcl]; exact (List.getElem?_eq_some_iff.1 hu).1
        have := hat j hj
        rw [hsz] at this
        rw [← Go.Deep.add_add, this, hu]
      · exact ⟨default, fun h => absurd h hil⟩
    obtain ⟨f, hf⟩ := Classical.axiomOfChoice key
    have hget : ∀ j p, ((List.range len).map f)[j]? = some p → j < len ∧ p = f j := fun j p hp => by
      rw [List.getElem?_map] at hp
      rcases Nat.lt_or_ge j len with hj | hj
      · rw [List.getElem?_range hj] at hp
        exact ⟨hj, by simpa using hp.symm⟩
      · rw [List.getElem?_eq_none (by simpa using hj)] at hp
        cases hp
    refine ⟨(List.range len).map f, ⟨some a, cap, by simp, by simpa using hl, by simp, by unfold maxLen at hm; simp; omega, fun _ => ⟨a, rfl, fun j p hp => ?_⟩⟩, by simp; omega, fun y hy => ?_⟩
    · obtain ⟨hj, rfl⟩ := hget j p hp
      obtain ⟨c, h1, h2, h3, h4⟩ := hf j hj
      exact ⟨c, h1, h2, h4⟩
    · obtain ⟨j, hj⟩ := List.getElem?_of_mem hy
      obtain ⟨hjl, rfl⟩ := hget j y hj
      obtain ⟨c, h1, h2, h3, h4⟩ := hf j hjl
      exact h3
theorem lst2 {α : Type} {l : List α} (h : l.length = 2) : ∃ a0 a1, l = [a0, a1] := by
  match l, h with
  | [a0, a1], _ => exact ⟨a0, a1, rfl⟩
theorem st2 {H : Type} {enc : TypeId × Value → H} {w : World} {base : Nat} {spare : Nat → Bool} {held : Bool} {fuel : Nat} {t : TypeId} {f0 f1 : Field} {cs : List Value} {x : DataW H × List MemPlace}
    (hs : P.underlying t = some (.struct #[f0, f1])) (h : DataW.trod enc P w base spare held fuel t cs = some x) :
    ∃ (y0 y1 : DataW H × List MemPlace) (n : Nat), cs.length = P.cellsOf t ∧ DataW.trod enc P w base spare held n f0.type ((cs.drop f0.offset).take (P.cellsOf f0.type)) = some y0 ∧ DataW.trod enc P w base spare held n f1.type ((cs.drop f1.offset).take (P.cellsOf f1.type)) = some y1 := by
  obtain ⟨xs, n, _, _, hl, hlen, hf⟩ := DataW.trod_struct hs h
  match xs, hlen with
  | [y0, y1], _ => exact ⟨y0, y1, n, hl, by simpa using hf 0 f0 rfl, by simpa using hf 1 f1 rfl⟩
end Go.Proofs.Ytobcpkeapjflhaa.Op
