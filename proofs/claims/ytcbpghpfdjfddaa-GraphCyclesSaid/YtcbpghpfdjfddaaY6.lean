import Derived.Test.YtcbpghpfdjfddaaY5
import Derived.Deep.LoopGhost
import Derived.OrdersHeld
import Derived.Test.YtcbpghpfdjfddaaProg
import Derived.Test.YtcbpghpfdjfddaaY1
import Derived.Test.YtcbpghpfdjfddaaY3
import Derived.Test.YtcbpghpfdjfddaaY4
-- Declarations of the text that this claim uses (slim.py, a program of this session).
namespace Go.Proofs.YtcbpghpfdjfddaaE
open Go Go.RowKit
set_option linter.unusedVariables false
set_option linter.unusedSimpArgs false
mutual
def AV.ren (f : Nat → Nat) : AV → AV
  | .sc x => .sc x
  | .ls sz xs => .ls sz xs
  | .nl => .nl
  | .ow t => .ow (f t)
  | .pt t off => .pt (f t) off
  | .el row off => .el row off
  | .rp t sz i off => .rp (f t) sz i off
  | .mp t => .mp (f t)
  | .fn g cap => .fn g (AV.renL f cap)
  | .ag cs => .ag (AV.renL f cs)
  | .tp vs => .tp (AV.renL f vs)
  | .ud => .ud
def AV.renL (f : Nat → Nat) : List AV → List AV
  | [] => []
  | x :: r => AV.ren f x :: AV.renL f r
end
mutual
def AV.lt (k : Nat) : AV → Bool
  | .ow t => decide (t < k)
  | .pt t _ => decide (t < k)
  | .rp t _ _ _ => decide (t < k)
  | .mp t => decide (t < k)
  | .fn _ cap => AV.ltL k cap
  | .ag cs => AV.ltL k cs
  | .tp vs => AV.ltL k vs
  | _ => true
def AV.ltL (k : Nat) : List AV → Bool
  | [] => true
  | x :: r => AV.lt k x && AV.ltL k r
end
def HC.ren (f : Nat → Nat) : HC → HC
  | .bx cs => .bx (AV.renL f cs)
  | c => c
def HC.lt (k : Nat) : HC → Bool
  | .bx cs => AV.ltL k cs
  | .dead => false
  | _ => true
theorem renL_get (f : Nat → Nat) : ∀ (cs : List AV) (i : Nat), (AV.renL f cs)[i]? = (cs[i]?).map (AV.ren f)
  | [], i => by simp [AV.renL]
  | x :: r, 0 => by simp [AV.renL]
  | x :: r, i + 1 => by simp only [AV.renL, List.getElem?_cons_succ]; exact renL_get f r i
theorem renL_len (f : Nat → Nat) : ∀ (cs : List AV), (AV.renL f cs).length = cs.length
  | [] => rfl
  | x :: r => by simp only [AV.renL, List.length_cons, renL_len f r]
theorem ltL_get {k : Nat} : ∀ {cs : List AV}, AV.ltL k cs = true → ∀ (i : Nat) (x : AV), cs[i]? = some x → x.lt k = true
  | [], _, i, x, hx => by simp at hx
  | y :: r, h, 0, x, hx => by
    simp only [AV.ltL, Bool.and_eq_true] at h
    injection hx with hx
    exact hx ▸ h.1
  | y :: r, h, i + 1, x, hx => by
    simp only [AV.ltL, Bool.and_eq_true] at h
    exact ltL_get h.2 i x hx
theorem ren_leaf (f : Nat → Nat) (x : AV) : (x.ren f).leaf = x.leaf := by cases x <;> simp [AV.ren, AV.leaf]
theorem VR.unren {G G' : Gh} {I : Addr → Prop} {w : World} {f : Nat → Nat} {k : Nat} (hG : ∀ i, i < k → G' i = G (f i)) {y : AV} {v : Value} (h : VR G I w y v) : ∀ x : AV, x.ren f = y → x.lt k = true → VR G' I w x v := by
  induction h with
  | sc v h => intro x hx hl; cases x <;> simp [AV.ren] at hx; subst hx; exact .sc _ h
  | ls sz xs v h => intro x hx hl; cases x <;> simp [AV.ren] at hx; obtain ⟨rfl, rfl⟩ := hx; exact .ls _ _ _ h
  | nl => intro x hx hl; cases x <;> simp [AV.ren] at hx; exact .nl
  | ow t A n c h =>
    intro x hx hl
    cases x <;> simp [AV.ren] at hx
    subst hx
    exact .ow _ _ _ _ (by rw [hG _ (of_decide_eq_true hl)]; exact h)
  | pt t off b h =>
    intro x hx hl
    cases x <;> simp [AV.ren] at hx
    obtain ⟨rfl, rfl⟩ := hx
    exact .pt _ _ _ (by rw [hG _ (of_decide_eq_true hl)]; exact h)
  | el row off a val hsp h hd => intro x hx hl; cases x <;> simp [AV.ren] at hx; obtain ⟨rfl, rfl⟩ := hx; exact .el _ _ a val hsp h hd
  | rp t sz i off b n c h =>
    intro x hx hl
    cases x <;> simp [AV.ren] at hx
    obtain ⟨rfl, rfl, rfl, rfl⟩ := hx
    exact .rp _ _ _ _ _ _ _ (by rw [hG _ (of_decide_eq_true hl)]; exact h)
  | mp t b h =>
    intro x hx hl
    cases x <;> simp [AV.ren] at hx
    subst hx
    exact .mp _ _ (by rw [hG _ (of_decide_eq_true hl)]; exact h)
  | fn g cap vs hn h ih =>
    intro x hx hl
    cases x <;> simp [AV.ren] at hx
    rename_i g' cap'
    obtain ⟨rfl, rfl⟩ := hx
    exact .fn _ _ _ (by rw [hn, renL_len]) fun i x hi => ih i (x.ren f) (by rw [renL_get, hi]; rfl) x rfl (ltL_get hl i x hi)
  | ag cs vs hn hll h ih =>
    intro x hx hl
    cases x <;> simp [AV.ren] at hx
    rename_i cs'
    subst hx
    refine .ag _ _ (by rw [hn, renL_len]) (fun x hx => ?_) fun i x hi => ih i (x.ren f) (by rw [renL_get, hi]; rfl) x rfl (ltL_get hl i x hi)
    obtain ⟨i, hi, rfl⟩ := List.getElem_of_mem hx
    have := hll ((cs'[i]).ren f) (List.mem_of_getElem? (by rw [renL_get, List.getElem?_eq_getElem hi]; rfl))
    rwa [ren_leaf] at this
  | tp cs vs hn h ih =>
    intro x hx hl
    cases x <;> simp [AV.ren] at hx
    rename_i cs'
    subst hx
    exact .tp _ _ (by rw [hn, renL_len]) fun i x hi => ih i (x.ren f) (by rw [renL_get, hi]; rfl) x rfl (ltL_get hl i x hi)
  | ud v => intro x hx hl; cases x <;> simp [AV.ren] at hx; exact .ud _
theorem VR.ren {G G' : Gh} {I : Addr → Prop} {w : World} {f : Nat → Nat} (hG : ∀ i v, G i = some v → G' (f i) = some v) {x : AV} {v : Value} (h : VR G I w x v) : VR G' I w (x.ren f) v := by
  induction h with
  | sc v h => simp only [AV.ren]; exact .sc _ h
  | ls sz xs v h => simp only [AV.ren]; exact .ls _ _ _ h
  | nl => simp only [AV.ren]; exact .nl
  | ow t A n c h => simp only [AV.ren]; exact .ow _ _ _ _ (hG _ _ h)
  | pt t off b h => simp only [AV.ren]; exact .pt _ _ _ (hG _ _ h)
  | el row off a val hsp h hd => simp only [AV.ren]; exact .el _ _ a val hsp h hd
  | rp t sz i off b n c h => simp only [AV.ren]; exact .rp _ _ _ _ _ _ _ (hG _ _ h)
  | mp t b h => simp only [AV.ren]; exact .mp _ _ (hG _ _ h)
  | fn g cap vs hn h ih =>
    simp only [AV.ren]
    refine .fn _ _ _ (by rw [hn, renL_len]) fun i x hi => ?_
    rw [renL_get] at hi
    obtain ⟨y, hy, rfl⟩ := Option.map_eq_some_iff.1 hi
    exact ih i y hy
  | ag cs vs hn hll h ih =>
    simp only [AV.ren]
    refine .ag _ _ (by rw [hn, renL_len]) (fun x hx => ?_) fun i x hi => ?_
    · obtain ⟨i, hi, rfl⟩ := List.getElem_of_mem hx
      have hi' : i < cs.length := by rwa [renL_len] at hi
      have h1 := List.getElem?_eq_getElem hi
      rw [renL_get, List.getElem?_eq_getElem hi'] at h1
      injection h1 with h1
      rw [← h1, ren_leaf]
      exact hll _ (List.getElem_mem hi')
    · rw [renL_get] at hi
      obtain ⟨y, hy, rfl⟩ := Option.map_eq_some_iff.1 hi
      exact ih i y hy
  | tp cs vs hn h ih =>
    simp only [AV.ren]
    refine .tp _ _ (by rw [hn, renL_len]) fun i x hi => ?_
    rw [renL_get] at hi
    obtain ⟨y, hy, rfl⟩ := Option.map_eq_some_iff.1 hi
    exact ih i y hy
  | ud v => simp only [AV.ren]; exact .ud _
theorem blk_ren (f : Nat → Nat) (c : HC) (g : Option Value) : blk (c.ren f) g = blk c g := by cases c <;> rfl
theorem CR.unren {P : Program} {G G' : Gh} {I : Addr → Prop} {w : World} {f : Nat → Nat} {k : Nat} (hG : ∀ i, i < k → G' i = G (f i)) {c : HC} {g : Option Value} (hl : c.lt k = true) (h : CR P G I w (c.ren f) g) : CR P G' I w c g := by
  cases c with
  | bx cs =>
    obtain ⟨b, vs, T, hg, hh, hn, hx⟩ := h
    refine ⟨b, vs, T, hg, hh, by rw [hn, renL_len], fun i x hi => ?_⟩
    obtain ⟨q1, q2⟩ := hx i (x.ren f) (by rw [renL_get, hi]; rfl)
    exact ⟨by rwa [ren_leaf] at q1, q2.unren hG x rfl (ltL_get hl i x hi)⟩
  | dead => trivial
  | row e sz xs => exact h
  | mi n f => exact h
theorem CR.ren {P : Program} {G G' : Gh} {I : Addr → Prop} {w : World} {f : Nat → Nat} (hG : ∀ i v, G i = some v → G' (f i) = some v) {c : HC} {g : Option Value} (h : CR P G I w c g) : CR P G' I w (c.ren f) g := by
  cases c with
  | bx cs =>
    obtain ⟨b, vs, T, hg, hh, hn, hx⟩ := h
    refine ⟨b, vs, T, hg, hh, by rw [hn, renL_len], fun i x hi => ?_⟩
    rw [renL_get] at hi
    obtain ⟨y, hy, rfl⟩ := Option.map_eq_some_iff.1 hi
    obtain ⟨q1, q2⟩ := hx i y hy
    exact ⟨by rwa [ren_leaf], q2.ren hG⟩
  | dead => trivial
  | row e sz xs => exact h
  | mi n f => exact h
def lst (Hs : List HC) : Nat → HC := fun i => Hs.getD i .dead
theorem lst_get {Hs : List HC} {i : Nat} {c : HC} (h : Hs[i]? = some c) : lst Hs i = c := by unfold lst; simp [h]
theorem lst_none {Hs : List HC} {i : Nat} (h : Hs.length ≤ i) : lst Hs i = .dead := by unfold lst; simp [h]
def subG (G : Gh) (ids : List Nat) : Gh := fun i => match ids[i]? with | some t => G t | none => none
theorem HRel.sub {P : Program} {G : Gh} {I : Addr → Prop} {w : World} {H : Nat → HC} {F : Nat → Prop} (hr : HRel P G I w H F) {ids : List Nat} {Hs : List HC} {f : Nat → Nat} (hf : ∀ (i t : Nat), ids[i]? = some t → f i = t) (hnd : ids.Nodup) (hl : ids.length = Hs.length)
    (he : ∀ (i t : Nat) (c : HC), ids[i]? = some t → Hs[i]? = some c → H t = c.ren f ∧ c.lt Hs.length = true) : HRel P (subG G ids) I w (lst Hs) (fun t => Hs.length ≤ t) := by
  have hex : ∀ i, i < Hs.length → ∃ t c, ids[i]? = some t ∧ Hs[i]? = some c ∧ lst Hs i = c ∧ subG G ids i = G t ∧ H t = c.ren f ∧ c.lt Hs.length = true := fun i hi => by
    have h1 : ids[i]? = some ids[i] := List.getElem?_eq_getElem (by omega)
    have h2 : Hs[i]? = some Hs[i] := List.getElem?_eq_getElem hi
    obtain ⟨q1, q2⟩ := he i _ _ h1 h2
    exact ⟨_, _, h1, h2, lst_get h2, by unfold subG; rw [h1], q1, q2⟩
  have hG : ∀ i, i < Hs.length → subG G ids i = G (f i) := fun i hi => by
    obtain ⟨t, c, h1, _, _, h4, _⟩ := hex i hi
    rw [h4, hf i t h1]
  have hb : ∀ i b, blk (lst Hs i) (subG G ids i) = some b → ∃ t, ids[i]? = some t ∧ blk (H t) (G t) = some b := fun i b hb => by
    by_cases hi : i < Hs.length
    · obtain ⟨t, c, h1, h2, h3, h4, h5, h6⟩ := hex i hi
      exact ⟨t, h1, by rw [h5, blk_ren, ← h4, ← h3]; exact hb⟩
    · rw [lst_none (by omega)] at hb; cases hb
  refine ⟨fun i => ?_, fun i i' b hne h1 h2 => ?_, fun a ha => ?_, fun i hi => ?_⟩
  · by_cases hi : i < Hs.length
    · obtain ⟨t, c, h1, h2, h3, h4, h5, h6⟩ := hex i hi
      rw [h3, h4]
      have := hr.cr t
      rw [h5] at this
      exact this.unren hG h6
    · rw [lst_none (by omega)]; trivial
  · obtain ⟨t, t1, t2⟩ := hb i b h1
    obtain ⟨t', t1', t2'⟩ := hb i' b h2
    refine hr.sep t t' b (fun e => hne ?_) t2 t2'
    subst e
    exact (List.getElem?_inj (List.getElem?_eq_some_iff.1 t1).1 hnd).1 (t1.trans t1'.symm)
  · obtain ⟨a1, a2, a3⟩ := hr.imm a ha
    refine ⟨a1, a2, fun i hi => ?_⟩
    obtain ⟨t, _, t2⟩ := hb i _ hi
    exact a3 t t2
  · refine ⟨lst_none hi, ?_⟩
    unfold subG
    rw [List.getElem?_eq_none (by omega)]
def cx0 (G : Gh) (I : Addr → Prop) (w : World) (H : Nat → HC) : Cx := ⟨fun b => w.heap.size ≤ b ∨ ∃ t, blk (H t) (G t) = some b, w, G, I⟩
theorem CRel.init {G : Gh} {I : Addr → Prop} {w : World} {H : Nat → HC} : CRel (cx0 G I w H) G I w H :=
  ⟨rfl, rfl, rfl, Nat.le_refl _, fun _ _ => rfl, fun _ h => .inl h, fun t b h => .inr ⟨t, h⟩, Mono.refl _ _ _, fun a h => .inl h⟩
def Tri (P : Program) (f : FuncId) (ags : List AV) (Hc : List HC) (r : AV) (Hr : List HC) : Prop :=
  (∃ fd, P.funcs[f]? = some fd ∧ (fd.name == "runtime.NumGoroutine") = false ∧ fd.body.isSome = true) ∧ Hc.length ≤ Hr.length ∧
  ∀ G I w (vs : Array Value), HRel P G I w (lst Hc) (fun t => Hc.length ≤ t) → vs.size = ags.length → (∀ (i : Nat) (x : AV), ags[i]? = some x → VR G I w x (vs.getD i undef)) →
    Calls P f vs w fun e w' => ∃ v G' I', e = .returned v ∧ GS P (cx0 G I w (lst Hc)) G' I' w' (lst Hr) (fun t => Hr.length ≤ t) ∧ VR G' I' w' r v
def idf (ids : List Nat) (N i : Nat) : Nat :=
  match ids[i]? with
  | some t => t
  | none => N + (i - ids.length)
def upF (f : Nat → Nat) : List HC → Nat → List (Nat × HC)
  | [], _ => []
  | c :: r, i => (f i, c.ren f) :: upF f r (i + 1)
def CallSide (P : Program) (g : FuncId) (all : List AV) (h : Nat → HC) (N : Nat) (ags : List AV) (ids : List Nat) (Hc : List HC) (r : AV) (Hr : List HC) : Prop :=
  AV.renL (idf ids N) ags = all ∧ ids.length = Hc.length ∧ ids.Nodup ∧ (∀ t ∈ ids, t < N) ∧ ids.map h = Hc.map (HC.ren (idf ids N)) ∧ AV.ltL Hc.length ags = true ∧ Hc.all (HC.lt Hc.length) = true ∧ Tri P g ags Hc r Hr
def callA (P : Program) (fv : AV) (args : List AV) (h : Nat → HC) (N : Nat) (ch : Ch) : Option Rs :=
  match fv, ch with
  | .fn g cap, .call ags ids Hc r Hr => some { r := r.ren (idf ids N), up := upF (idf ids N) Hr 0, k := Hr.length - Hc.length, rd := ids, side := CallSide P g (args ++ cap) h N ags ids Hc r Hr }
  | _, _ => none
theorem idf_lt {ids : List Nat} {N i t : Nat} (h : ids[i]? = some t) : idf ids N i = t := by unfold idf; rw [h]
theorem idf_ge {ids : List Nat} {N i : Nat} (h : ids.length ≤ i) : idf ids N i = N + (i - ids.length) := by unfold idf; rw [List.getElem?_eq_none h]
theorem idf_inj {ids : List Nat} {N : Nat} (hnd : ids.Nodup) (hN : ∀ t ∈ ids, t < N) {i j : Nat} (h : idf ids N i = idf ids N j) : i = j := by
  rcases Nat.lt_or_ge i ids.length with hi | hi <;> rcases Nat.lt_or_ge j ids.length with hj | hj
  · have h1 := List.getElem?_eq_getElem hi
    have h2 := List.getElem?_eq_getElem hj
    rw [idf_lt h1, idf_lt h2] at h
    exact (List.getElem?_inj hi hnd).1 (by rw [h1, h2, h])
  · have h1 := List.getElem?_eq_getElem hi
    rw [idf_lt h1, idf_ge hj] at h
    have := hN _ (List.getElem_mem hi)
    omega
  · have h2 := List.getElem?_eq_getElem hj
    rw [idf_ge hi, idf_lt h2] at h
    have := hN _ (List.getElem_mem hj)
    omega
  · rw [idf_ge hi, idf_ge hj] at h
    omega
theorem upF_lk {f : Nat → Nat} : ∀ (Hs : List HC) (i0 t : Nat) (d : HC), (∀ i j, i0 ≤ i → i0 ≤ j → f i = f j → i = j) → (∃ i c, Hs[i]? = some c ∧ t = f (i0 + i) ∧ lk (upF f Hs i0) t d = c.ren f) ∨ ((∀ i, i < Hs.length → t ≠ f (i0 + i)) ∧ lk (upF f Hs i0) t d = d)
  | [], i0, t, d, _ => .inr ⟨fun i hi => by simp at hi, rfl⟩
  | c :: r, i0, t, d, hinj => by
    by_cases e : f i0 = t
    · exact .inl ⟨0, c, rfl, e.symm, by unfold upF lk; rw [if_pos e]⟩
    · rcases upF_lk r (i0 + 1) t d (fun i j hi hj => hinj i j (by omega) (by omega)) with ⟨i, c', h1, h2, h3⟩ | ⟨h1, h2⟩
      · exact .inl ⟨i + 1, c', h1, by rw [h2]; congr 1; omega, by unfold upF lk; rw [if_neg e]; exact h3⟩
      · refine .inr ⟨fun i hi => ?_, by unfold upF lk; rw [if_neg e]; exact h2⟩
        cases i with
        | zero => exact fun e' => e e'.symm
        | succ i =>
          have := h1 i (by simpa using hi)
          rwa [show i0 + (i + 1) = i0 + 1 + i by omega]
section
variable {P : Program} {Γ : TEnv} {cx : Cx} {G : Gh} {I : Addr → Prop} {w : World} {h : Nat → HC} {F : Nat → Prop} {N : Nat}
theorem call_aft (hg : GS P cx G I w h F) {ids : List Nat} {Hc Hr : List HC} {r : AV} (hnd : ids.Nodup) (hN : ∀ t ∈ ids, t < N) (hFN : ∀ t, N ≤ t → t < N + (Hr.length - Hc.length) → F t) (hl : ids.length = Hc.length) (hle : Hc.length ≤ Hr.length) (hlv : Hc.all (HC.lt Hc.length) = true) (hm : ids.map h = Hc.map (HC.ren (idf ids N)))
    {v : Value} {w' : World} {G' : Gh} {I' : Addr → Prop} (hgs : GS P (cx0 (subG G ids) I w (lst Hc)) G' I' w' (lst Hr) (fun t => Hr.length ≤ t)) (hv : VR G' I' w' r v) (R : Rs) (hRr : R.r = r.ren (idf ids N)) (hRu : R.up = upF (idf ids N) Hr 0) (hRk : R.k = Hr.length - Hc.length) : Aft P cx G I w h F N R v w' := by
  have hm' : ∀ (i t : Nat) (c : HC), ids[i]? = some t → Hc[i]? = some c → h t = c.ren (idf ids N) ∧ c.lt Hc.length = true := fun i t c h1 h2 => by
    have e := congrArg (fun l => l[i]?) hm
    simp only [List.getElem?_map, h1, h2, Option.map_some] at e
    exact ⟨Option.some.inj e, List.all_eq_true.1 hlv c (List.mem_of_getElem? h2)⟩
  have hsub : ∀ i, i < Hc.length → ∃ t c, ids[i]? = some t ∧ Hc[i]? = some c ∧ lst Hc i = c ∧ subG G ids i = G t ∧ h t = c.ren (idf ids N) ∧ c.lt Hc.length = true := fun i hi => by
    have h1 : ids[i]? = some ids[i] := List.getElem?_eq_getElem (by omega)
    have h2 : Hc[i]? = some Hc[i] := List.getElem?_eq_getElem hi
    obtain ⟨q1, q2⟩ := hm' i _ _ h1 h2
    exact ⟨_, _, h1, h2, lst_get h2, by unfold subG; rw [h1], q1, q2⟩
  -- the caller's numbers behind the call
  let G2 : Gh := fun t => if N ≤ t ∧ t < N + (Hr.length - Hc.length) then G' (Hc.length + (t - N)) else G t
  have hGf : ∀ i u, G' i = some u → G2 (idf ids N i) = some u := fun i u hu => by
    have hi : i < Hr.length := by
      rcases Nat.lt_or_ge i Hr.length with h1 | h1
      · exact h1
      · rw [(hgs.h.dom i h1).2] at hu; cases hu
    by_cases hic : i < Hc.length
    · obtain ⟨t, c, h1, h2, h3, h4, h5, h6⟩ := hsub i hic
      rw [idf_lt h1]
      have ht := hN t (List.mem_of_getElem? h1)
      show (if N ≤ t ∧ t < N + (Hr.length - Hc.length) then _ else G t) = some u
      rw [if_neg (by omega)]
      have hgt : G t ≠ none := fun e => by
        have := hg.h.cr t
        rw [e] at this
        have hd := CR.some_or this
        rw [h5] at hd
        cases c <;> simp [HC.ren] at hd
        simp [HC.lt] at h6
      cases hgt' : G t with
      | none => exact (hgt hgt').elim
      | some u' =>
        have := hgs.c.mono.1 i u' (by show subG G ids i = _; rw [h4, hgt'])
        rw [this] at hu
        exact hu
    · rw [idf_ge (by omega)]
      show (if N ≤ N + (i - ids.length) ∧ N + (i - ids.length) < N + (Hr.length - Hc.length) then G' (Hc.length + (N + (i - ids.length) - N)) else _) = some u
      rw [if_pos (by omega), show Hc.length + (N + (i - ids.length) - N) = i by omega]
      exact hu
  have hG2 : ∀ t u, G t = some u → G2 t = some u := fun t u hu => by
    have ht : ¬ (N ≤ t ∧ t < N + (Hr.length - Hc.length)) := fun e => by
      rw [(hg.h.dom t (hFN t e.1 e.2)).2] at hu; cases hu
    show (if N ≤ t ∧ t < N + (Hr.length - Hc.length) then _ else G t) = some u
    rw [if_neg ht]
    exact hu
  have hinj := fun i j (h : idf ids N i = idf ids N j) => idf_inj hnd hN h
  have hcell : ∀ t, (∃ i c, Hr[i]? = some c ∧ t = idf ids N i ∧ upds h R.up t = c.ren (idf ids N)) ∨ ((∀ i, i < Hr.length → t ≠ idf ids N i) ∧ upds h R.up t = h t) := fun t => by
    unfold upds
    rw [hRu]
    rcases upF_lk (f := idf ids N) Hr 0 t (h t) (fun i j _ _ e => hinj i j e) with ⟨i, c, h1, h2, h3⟩ | ⟨h1, h2⟩
    · exact .inl ⟨i, c, h1, by simpa using h2, h3⟩
    · exact .inr ⟨fun i hi => by simpa using h1 i hi, h2⟩
  -- a callee's cell, seen by the caller
  have hGi : ∀ i c, Hr[i]? = some c → c = .dead ∨ ∃ u, G' i = some u ∧ G2 (idf ids N i) = some u := fun i c hc => by
    cases hu : G' i with
    | none =>
      have := hgs.h.cr i
      rw [hu, lst_get hc] at this
      exact .inl (CR.some_or this)
    | some u => exact .inr ⟨u, rfl, hGf i u hu⟩
  have hM0 : ∀ b, (cx0 (subG G ids) I w (lst Hc)).M b → w.heap.size ≤ b ∨ ∃ t ∈ ids, blk (h t) (G t) = some b := fun b hb => by
    rcases hb with hb | ⟨i, hb⟩
    · exact .inl hb
    · have hi : i < Hc.length := by
        rcases Nat.lt_or_ge i Hc.length with h1 | h1
        · exact h1
        · rw [lst_none h1] at hb; cases hb
      obtain ⟨t, c, h1, h2, h3, h4, h5, h6⟩ := hsub i hi
      exact .inr ⟨t, List.mem_of_getElem? h1, by rw [h5, blk_ren, ← h4, ← h3]; exact hb⟩
  have hMc : ∀ b, (cx0 (subG G ids) I w (lst Hc)).M b → cx.M b := fun b hb => by
    rcases hM0 b hb with h1 | ⟨t, _, h1⟩
    · exact hg.c.up b (Nat.le_trans hg.c.size h1)
    · exact hg.c.live t b h1
  have hnot : ∀ t b, (∀ i, i < Hr.length → t ≠ idf ids N i) → blk (h t) (G t) = some b → ¬ (cx0 (subG G ids) I w (lst Hc)).M b := fun t b ht hb hMb => by
    rcases hM0 b hMb with h1 | ⟨t', ht', h1⟩
    · exact Nat.lt_irrefl _ (Nat.lt_of_lt_of_le ((hg.h.cr t).lt hb) h1)
    · obtain ⟨i, hi, e⟩ := List.getElem_of_mem ht'
      have hne : t ≠ t' := fun e' => ht i (by omega) (by rw [idf_lt (List.getElem?_eq_getElem hi), e, e'])
      exact hg.h.sep t t' b hne hb h1
  have hmono : Mono G I w G2 I' w' := ⟨hG2, fun a ha => hgs.c.mono.2 a ha⟩
  have hother : ∀ t, (∀ i, i < Hr.length → t ≠ idf ids N i) → G2 t = G t ∨ h t = .dead := fun t ht => by
    cases hu : G t with
    | some u => exact .inl (hG2 t u hu)
    | none =>
      have := hg.h.cr t
      rw [hu] at this
      exact .inr (CR.some_or this)
  have hbk : ∀ t b, blk (upds h R.up t) (G2 t) = some b → (∃ i c, Hr[i]? = some c ∧ t = idf ids N i ∧ blk (lst Hr i) (G' i) = some b) ∨ ((∀ i, i < Hr.length → t ≠ idf ids N i) ∧ blk (h t) (G t) = some b) := fun t b hb => by
    rcases hcell t with ⟨i, c, h1, h2, h3⟩ | ⟨h1, h2⟩
    · left
      refine ⟨i, c, h1, h2, ?_⟩
      rw [h3, blk_ren, h2] at hb
      rw [lst_get h1]
      rcases hGi i c h1 with rfl | ⟨u, q1, q2⟩
      · cases hb
      · rw [q2] at hb
        rw [q1]
        exact hb
    · right
      refine ⟨h1, ?_⟩
      rw [h2] at hb
      rcases hother t h1 with e | e
      · rwa [e] at hb
      · rw [e] at hb; cases hb
  refine ⟨G2, I', ⟨⟨fun t => ?_, fun t t' b hne h1 h2 => ?_, fun a ha => ?_, fun t ht => ?_⟩, ⟨hgs.c.os.trans hg.c.os, hgs.c.tape.trans hg.c.tape, hgs.c.output.trans hg.c.output, Nat.le_trans hg.c.size hgs.c.size, fun k hk => ?_, hg.c.up, fun t b hb => ?_, hg.c.mono.trans hmono, fun a ha => ?_⟩⟩, hmono, ?_⟩
  · rcases hcell t with ⟨i, c, h1, h2, h3⟩ | ⟨h1, h2⟩
    · rw [h3, h2]
      have hc := hgs.h.cr i
      rw [lst_get h1] at hc
      rcases hGi i c h1 with rfl | ⟨u, q1, q2⟩
      · trivial
      · rw [q2]
        rw [q1] at hc
        exact hc.ren hGf
    · rw [h2]
      rcases hother t h1 with e | e
      · rw [e]
        exact (hg.h.cr t).mono hmono (fun b hb => hgs.c.frame b (hnot t b h1 hb))
      · rw [e]; trivial
  · rcases hbk t b h1 with ⟨i, c, q1, q2, q3⟩ | ⟨q1, q2⟩ <;> rcases hbk t' b h2 with ⟨j, d, p1, p2, p3⟩ | ⟨p1, p2⟩
    · exact hgs.h.sep i j b (fun e => hne (by rw [q2, p2, e])) q3 p3
    · exact hnot t' b p1 p2 (hgs.c.live i b q3)
    · exact hnot t b q1 q2 (hgs.c.live j b p3)
    · exact hg.h.sep t t' b hne q2 p2
  · obtain ⟨a1, a2, a3⟩ := hgs.h.imm a ha
    refine ⟨a1, a2, fun t hb => ?_⟩
    rcases hbk t _ hb with ⟨i, c, q1, q2, q3⟩ | ⟨q1, q2⟩
    · exact a3 i q3
    · rcases hgs.c.inew a ha with e | e
      · exact (hg.h.imm a e).2.2 t q2
      · exact hnot t _ q1 q2 e
  · rw [hRk] at ht
    have hdt := hg.h.dom t ht.1
    rcases hcell t with ⟨i, c, h1, h2, h3⟩ | ⟨h1, h2⟩
    · exfalso
      have hi : i < Hr.length := (List.getElem?_eq_some_iff.1 h1).1
      rcases Nat.lt_or_ge i ids.length with h4 | h4
      · have h5 := List.getElem?_eq_getElem h4
        rw [idf_lt h5] at h2
        obtain ⟨t', c', q1, q2, q3, q4, q5, q6⟩ := hsub i (by omega)
        have : t' = t := by rw [q1] at h5; injection h5 with h5; rw [h5, h2]
        subst this
        rw [hdt.1] at q5
        cases c' <;> simp [HC.ren] at q5
        simp [HC.lt] at q6
      · rw [idf_ge h4] at h2
        exact ht.2 ⟨by omega, by omega⟩
    · refine ⟨by rw [h2]; exact hdt.1, ?_⟩
      show (if N ≤ t ∧ t < N + (Hr.length - Hc.length) then _ else G t) = none
      rw [if_neg ht.2]
      exact hdt.2
  · exact (hgs.c.frame k (fun e => hk (hMc k e))).trans (hg.c.frame k hk)
  · rcases hbk t b hb with ⟨i, c, q1, q2, q3⟩ | ⟨q1, q2⟩
    · exact hMc b (hgs.c.live i b q3)
    · exact hg.c.live t b q2
  · rcases hgs.c.inew a ha with e | e
    · exact hg.c.inew a e
    · exact .inr (hMc _ e)
  · rw [hRr]; exact hv.ren hGf
theorem so_call (hg : GS P cx G I w h F) {fo : Operand} {args : Array Operand} {tys : Array TypeId} {ρ : Operand → AV} {ev : Operand → Value} (hρ : ∀ x, VR G I w (ρ x) (ev x)) {ty : TypeId} {ch : Ch} {R : Rs} (he : callA P (ρ fo) (args.toList.map ρ) h N ch = some R) (hs : R.side) (hFN : ∀ t, N ≤ t → t < N + R.k → F t) :
    Does P (do let d ← resolve ev ⟨.value fo, args, tys⟩ ty; invoke d.target d.args) w (Aft P cx G I w h F N R) := by
  have hf := hρ fo
  cases hfv : ρ fo with
  | fn g cap =>
    rw [hfv] at he hf
    cases ch with
    | call ags ids Hc r Hr =>
      injection he with he
      subst he
      obtain ⟨has, hl, hnd, hN, hm, hlt, hlv, ⟨fd, hfd, hnm, hbd⟩, hle, htri⟩ := hs
      generalize hefo : ev fo = vf at hf
      cases hf with
      | fn _ _ vs hn hcap =>
        have hb : ∃ c, fd.body = some c := Option.isSome_iff_exists.1 hbd
        obtain ⟨c, hc⟩ := hb
        have hnm' : fd.name ≠ "runtime.NumGoroutine" := by simpa using hnm
        have hrun : (do let d ← resolve ev ⟨.value fo, args, tys⟩ ty; invoke d.target d.args).run P w = .ok (.enter g (args.map ev ++ vs)) w := by
          simp [resolve, Deferred.ofValue, hefo, invoke, callFunc, hfd, hnm', hc]
        unfold Does
        rw [hrun]
        have hm' : ∀ (i t : Nat) (c : HC), ids[i]? = some t → Hc[i]? = some c → h t = c.ren (idf ids N) ∧ c.lt Hc.length = true := fun i t c h1 h2 => by
          have e := congrArg (fun l => l[i]?) hm
          simp only [List.getElem?_map, h1, h2, Option.map_some] at e
          exact ⟨Option.some.inj e, List.all_eq_true.1 hlv c (List.mem_of_getElem? h2)⟩
        have hsubr := hg.h.sub (f := idf ids N) (fun i t h1 => idf_lt h1) hnd hl hm'
        have hGs : ∀ i, i < Hc.length → subG G ids i = G (idf ids N i) := fun i hi => by
          have h1 : ids[i]? = some ids[i] := List.getElem?_eq_getElem (by omega)
          unfold subG
          rw [idf_lt h1, h1]
        have hlen : (args.map ev ++ vs).size = ags.length := by
          have := congrArg List.length has
          rw [renL_len] at this
          rw [this]
          simp [hn]
        refine (htri (subG G ids) I w (args.map ev ++ vs) hsubr hlen (fun i x hx => ?_)).mono ?_
        · have h1 : (args.toList.map ρ ++ cap)[i]? = some (x.ren (idf ids N)) := by rw [← has, renL_get, hx]; rfl
          refine VR.unren hGs (y := x.ren (idf ids N)) ?_ x rfl (ltL_get hlt i x hx)
          rw [List.getElem?_append] at h1
          split at h1
          · rename_i hi
            rw [List.getElem?_map] at h1
            obtain ⟨y, hy, hyx⟩ := Option.map_eq_some_iff.1 h1
            have hi' : i < args.size := by simpa using hi
            have e : (args.map ev ++ vs).getD i undef = ev y := by
              have hy' : args[i]? = some y := by simpa using hy
              simp only [Array.getD_eq_getD_getElem?]
              rw [Array.getElem?_append_left (by simpa using hi'), Array.getElem?_map, hy']
              rfl
            rw [e, ← hyx]
            exact hρ y
          · rename_i hi
            have hi' : args.size ≤ i := by simpa using hi
            have e : (args.map ev ++ vs).getD i undef = vs.getD (i - (args.toList.map ρ).length) undef := by
              simp only [Array.getD_eq_getD_getElem?]
              rw [Array.getElem?_append_right (by simpa using hi')]
              simp
            rw [e]
            exact hcap _ _ h1
        · rintro e w' ⟨v, G', I', rfl, hgs, hv⟩
          exact ⟨v, rfl, call_aft hg hnd hN hFN hl hle hlv hm hgs hv _ rfl rfl rfl⟩
    | _ => cases he
  | _ => rw [hfv] at he; cases he
end
end Go.Proofs.YtcbpghpfdjfddaaE
-- Declarations of the text that this claim uses (slim.py, a program of this session).
namespace Go.Proofs.YtcbpghpfdjfddaaE
open Go Go.RowKit
set_option linter.unusedVariables false
set_option linter.unusedSimpArgs false
def pickA (c x y : AV) : Option Rs :=
  match c with
  | .sc (.bool true) => some { r := x }
  | .sc (.bool false) => some { r := y }
  | _ => none
def tiO (Γ : TEnv) (e : Option TypeId) : Option TI :=
  match e with
  | some e => Γ e
  | none => none
def funcA (fn : Fn) (first cap : List AV) : Option Rs :=
  match fn, first with
  | .func f, [] => some { r := .fn f cap }
  | _, _ => none
def bltA (Γ : TEnv) (h : Nat → HC) (N : Nat) (ch : Ch) (b : Builtin) (xs : List AV) (ts : List TypeId) : Option Rs :=
  match b, xs, ts with
  | .len, [x], [t] => lenA (Γ t) h x ch
  | .min, [x, y], _ => minA x y ch
  | .max, [x, y], _ => maxA x y ch
  | .append, [x, y], [t, t2] => appA (elOf (Γ t)) (tiO Γ (elOf (Γ t))) h N (decide (t2 = t)) x (srcOf h y)
  | _, _, _ => none
def nilA (x : AV) : Option Rs :=
  match x with
  | .pt t off => some { r := .pt t off }
  | .el row off => some { r := .el row off }
  | .rp t sz i off => some { r := .rp t sz i off }
  | .fn f cap => some { r := .fn f cap }
  | _ => none
def evO (P : Program) (Γ : TEnv) (ρ : Operand → AV) (h : Nat → HC) (N : Nat) (ch : Ch) (op : Op) : Option Rs :=
  match op with
  | .move x => some { r := ρ x }
  | .assign x => some { r := ρ x }
  | .pick c x y => pickA (ρ c) (ρ x) (ρ y)
  | .alloc t => allocA (Γ t) N
  | .box _ x => boxA N (ρ x)
  | .build t parts => buildA (plO Γ (flds (Γ t))) (zvO (Γ t)) (parts.toList.map fun p => (p.1, ρ p.2))
  | .buildSlice t n parts => litA (elOf (Γ t)) (tiO Γ (elOf (Γ t))) n N (parts.toList.map fun p => (p.1, ρ p.2))
  | .load t x => loadA (Γ t) h (ρ x) ch
  | .store t x y => storeA (Γ t) h (ρ x) (ρ y)
  | .binOp op t x y _ => binA Γ t op (ρ x) (ρ y) ch
  | .unOp op _ x => unA op (ρ x) ch
  | .convert s d x => convA (Γ s) (Γ d) (ρ x) ch
  | .slice t x lo hi mx => sliceA (szOf (elOf (Γ t)) Γ) (ρ x) (intO (lo.map ρ)) (intO (hi.map ρ)) (mx.map ρ)
  | .fieldAddr t x k => fieldAddrA (fldOf (Γ t) k) Γ (ρ x)
  | .field t x k => fieldA (fldOf (Γ t) k) Γ (ρ x)
  | .indexAddr t x i => indexAddrA (szOf (elOf (Γ t)) Γ) h (ρ x) (ρ i) ch
  | .extract x k => extractA (ρ x) k
  | .nilCheck x => nilA (ρ x)
  | .makeFunc fn first cap => funcA fn (first.toList.map ρ) (cap.toList.map ρ)
  | .call c => (match c.callee with
    | .value fo => callA P (ρ fo) (c.args.toList.map ρ) h N ch
    | .builtin b => bltA Γ h N ch b (c.args.toList.map ρ) c.argTypes.toList
    | _ => none)
  | _ => none
section
variable {P : Program} {Γ : TEnv} {cx : Cx} {G : Gh} {I : Addr → Prop} {w : World} {h : Nat → HC} {F : Nat → Prop} {N : Nat}
theorem does_pure {v : Value} {Post : Value → World → Prop} (hp : Post v w) : Does P (pure (Next.value v)) w Post := by
  unfold Does
  simp [hp]
theorem list_one {α β : Type} {a : Array α} {f : α → β} {x : β} (h : a.toList.map f = [x]) : ∃ y, a = #[y] ∧ f y = x := by
  obtain ⟨l⟩ := a
  cases l with
  | nil => cases h
  | cons y r =>
    cases r with
    | nil => injection h with h; exact ⟨y, rfl, h⟩
    | cons z r => injection h with _ h; cases h
theorem list_two {α β : Type} {a : Array α} {f : α → β} {x y : β} (h : a.toList.map f = [x, y]) : ∃ u v, a = #[u, v] ∧ f u = x ∧ f v = y := by
  obtain ⟨l⟩ := a
  cases l with
  | nil => cases h
  | cons u r =>
    cases r with
    | nil => injection h with _ h; cases h
    | cons v r =>
      cases r with
      | nil => injection h with h1 h; injection h with h2 _; exact ⟨u, v, rfl, h1, h2⟩
      | cons z r => injection h with _ h; injection h with _ h; cases h
theorem arr_one {α : Type} {a : Array α} {x : α} (h : a.toList = [x]) : a = #[x] := by
  obtain ⟨l⟩ := a
  exact congrArg Array.mk h
theorem arr_two {α : Type} {a : Array α} {x y : α} (h : a.toList = [x, y]) : a = #[x, y] := by
  obtain ⟨l⟩ := a
  exact congrArg Array.mk h
theorem so_blt (hΓ : EOk P Γ) (hg : GS P cx G I w h F) {ρ : Operand → AV} {ev : Operand → Value} (hρ : ∀ x, VR G I w (ρ x) (ev x)) {b : Builtin} {args : Array Operand} {tys : Array TypeId} {ty : TypeId} {ch : Ch} {R : Rs} (he : bltA Γ h N ch b (args.toList.map ρ) tys.toList = some R) (hs : R.side) (hFN : ∀ t, N ≤ t → t < N + R.k → F t) :
    Does P (do let d ← resolve ev ⟨.builtin b, args, tys⟩ ty; invoke d.target d.args) w (Aft P cx G I w h F N R) := by
  unfold bltA at he
  split at he
  · rename_i x t hx ht
    obtain ⟨y, rfl, rfl⟩ := list_one hx
    rw [arr_one ht]
    have := so_len (N := N) (ty := ty) hΓ hg (hρ y) he hs
    unfold Does at *
    simpa [resolve, invoke, builtin] using this
  · rename_i x y hx
    obtain ⟨u, v, rfl, rfl, rfl⟩ := list_two hx
    have := so_min (N := N) (ts := tys) (t := ty) hg (hρ u) (hρ v) he hs
    unfold Does at *
    simpa [resolve, invoke, builtin] using this
  · rename_i x y hx
    obtain ⟨u, v, rfl, rfl, rfl⟩ := list_two hx
    have := so_max (N := N) (ts := tys) (t := ty) hg (hρ u) (hρ v) he hs
    unfold Does at *
    simpa [resolve, invoke, builtin] using this
  · rename_i x y t t2 hx ht
    obtain ⟨u, v, rfl, rfl, rfl⟩ := list_two hx
    rw [arr_two ht]
    have hk : R.k = 1 := by
      unfold appA at he
      split at he
      · split at he
        · injection he with he; rw [← he]
        · split at he
          · injection he with he; rw [← he]
          · cases he
        · cases he
      · cases he
    have := so_append (ty := ty) hΓ hg (hFN N (Nat.le_refl _) (by omega)) rfl (eio := tiO Γ (elOf (Γ t))) (fun e he => by rw [he]; rfl) (hρ u) (hρ v) he hs
    unfold Does at *
    simpa [resolve, invoke, builtin] using this
  · cases he
theorem evO_sound (hΓ : EOk P Γ) (hg : GS P cx G I w h F) {ρ : Operand → AV} {ev : Operand → Value} (hρ : ∀ x, VR G I w (ρ x) (ev x)) {o : Oper} {ch : Ch} {R : Rs} (he : evO P Γ ρ h N ch o.op = some R) (hs : R.side) (hFN : ∀ t, N ≤ t → t < N + R.k → F t) :
    Does P (execOp ev o) w (Aft P cx G I w h F N R) := by
  obtain ⟨dst, op, type, pos, after, guard⟩ := o
  simp only [] at he
  unfold evO at he
  split at he
  · injection he with he; subst he; exact does_pure (Aft.same hg rfl rfl (hρ _))
  · injection he with he; subst he; exact does_pure (Aft.same hg rfl rfl (hρ _))
  · rename_i c x y
    unfold pickA at he
    have hc := hρ c
    split at he
    · rename_i hh
      rw [hh] at hc
      generalize hec : ev c = vc at hc
      cases hc
      injection he with he
      subst he
      have hrun : (execOp ev ⟨dst, .pick c x y, type, pos, after, guard⟩).run P w = .ok (.value (ev x)) w := by simp [execOp, asBool, hec]
      unfold Does
      rw [hrun]
      exact Aft.same hg rfl rfl (hρ x)
    · rename_i hh
      rw [hh] at hc
      generalize hec : ev c = vc at hc
      cases hc
      injection he with he
      subst he
      have hrun : (execOp ev ⟨dst, .pick c x y, type, pos, after, guard⟩).run P w = .ok (.value (ev y)) w := by simp [execOp, asBool, hec]
      unfold Does
      rw [hrun]
      exact Aft.same hg rfl rfl (hρ y)
    · cases he
  · rename_i t
    have hk : R.k = 1 := by
      unfold allocA at he
      split at he
      · split at he
        · injection he with he; rw [← he]
        · cases he
      · cases he
    exact so_alloc hΓ hg (hFN N (Nat.le_refl _) (by omega)) he
  · have hk : R.k = 1 := by
      unfold boxA at he
      split at he
      · injection he with he; rw [← he]
      · cases he
    exact so_box hg (hFN N (Nat.le_refl _) (by omega)) (hρ _) he
  · exact so_build hΓ hg hρ he
  · have hk : R.k = 1 := by
      unfold litA at he
      split at he
      · split at he
        · split at he
          · split at he
            · injection he with he; rw [← he]
            · cases he
          · cases he
        · cases he
      · cases he
    exact so_lit hΓ hg (hFN N (Nat.le_refl _) (by omega)) hρ rfl (fun e he => by rw [he]; rfl) he
  · exact so_load hΓ hg (hρ _) he hs
  · exact so_store hΓ hg (hρ _) (hρ _) he
  · exact so_bin hΓ hg (hρ _) (hρ _) he hs
  · exact so_un hg (hρ _) he hs
  · exact so_conv hΓ hg (hρ _) he hs
  · exact so_slice hΓ hg hρ (hρ _) he hs
  · exact so_fieldAddr hΓ hg (hρ _) he
  · exact so_field hΓ hg (hρ _) he
  · exact so_indexAddr hΓ hg (hρ _) (hρ _) he hs
  · exact so_extract hg (hρ _) he
  · rename_i x
    have hx := hρ x
    unfold nilA at he
    have hex : ∀ v, ev x = v → (∀ a, v = .pointer a → a ≠ none) → v ≠ .nilIface → v ≠ .nilFunc → (∀ m f c, v ≠ .func (.method m) f c) → (execOp ev ⟨dst, .nilCheck x, type, pos, after, guard⟩).run P w = .ok (.value v) w := by
      intro v hv h1 h2 h3 h4
      simp only [execOp, hv]
      split
      · exact absurd rfl (h1 _ rfl)
      · exact absurd rfl h2
      · exact absurd rfl h3
      · exact absurd rfl (h4 _ _ _)
      · rfl
    split at he
    all_goals first | (cases he; done) | skip
    all_goals
      rename_i hh
      rw [hh] at hx
      injection he with he
      subst he
      generalize hv : ev x = vx at hx
      have hx2 := hx
      cases hx
      unfold Does
      rw [hex _ hv (fun a e => by first | (cases e; done) | (injection e with e; subst e; simp)) (by simp) (by simp) (by simp)]
      exact Aft.same hg rfl rfl hx2
  · rename_i fn first cap
    unfold funcA at he
    split at he
    · rename_i f hf
      injection he with he
      subst he
      have hf' : first = #[] := by
        obtain ⟨l⟩ := first
        cases l with
        | nil => rfl
        | cons => cases hf
      subst hf'
      exact does_v (s := Instr.makeFunc (.func f) (Array.map ev #[]) (cap.map ev)) (v := .func (.func f) #[] (cap.map ev)) (w' := w) (by simp [Instr.makeFunc]) (Aft.same hg rfl rfl (.fn _ _ _ (by simp) (fun i x hx => by
        rw [List.getElem?_map] at hx
        obtain ⟨y, hy, rfl⟩ := Option.map_eq_some_iff.1 hx
        have hy' : cap[i]? = some y := by simpa using hy
        have e : (cap.map ev).getD i undef = ev y := by simp [hy']
        rw [e]
        exact hρ y)))
    · cases he
  · rename_i c
    obtain ⟨callee, args, tys⟩ := c
    simp only [] at he
    split at he
    · exact so_call hg hρ he hs hFN
    · exact so_blt hΓ hg hρ he hs hFN
    · cases he
  · cases he
end
structure St where
  env : List (Nat × AV)
  H : List (Nat × HC)
  N : Nat
def St.get (σ : St) (s : Nat) : AV := lk σ.env s .ud
def St.hp (σ : St) (t : Nat) : HC := lk σ.H t .dead
def St.ev (σ : St) : Operand → AV
  | .tmp t => σ.get t
  | .const v => cst v
  | .func f => .fn f []
  | .global _ => .ud
def rm {α : Type} : List (Nat × α) → Nat → List (Nat × α)
  | [], _ => []
  | (k, v) :: r, s => if k = s then rm r s else (k, v) :: rm r s
theorem lk_rm {α : Type} : ∀ (l : List (Nat × α)) (k s : Nat) (d : α), lk (rm l k) s d = if k = s then d else lk l s d
  | [], k, s, d => by simp [rm, lk]
  | (k', v) :: r, k, s, d => by
    unfold rm
    split
    · rename_i h
      subst h
      rw [lk_rm r k' s d]
      split
      · rfl
      · rename_i h; unfold lk; rw [if_neg h]; cases r <;> rfl
    · rename_i h
      unfold lk
      rw [lk_rm r k s d]
      split <;> split <;> simp_all
def put (l : List (Nat × AV)) (d : Option Nat) (v : AV) : List (Nat × AV) :=
  match d with
  | some d => (d, v) :: rm l d
  | none => l
def putH (l : List (Nat × HC)) (k : Nat) (c : HC) : List (Nat × HC) :=
  match c with
  | .dead => rm l k
  | c => (k, c) :: rm l k
def putAll : List (Nat × HC) → List (Nat × HC) → List (Nat × HC)
  | [], H => H
  | (k, c) :: r, H => putH (putAll r H) k c
theorem lk_putH (l : List (Nat × HC)) (k : Nat) (c : HC) (t : Nat) : lk (putH l k c) t .dead = if k = t then c else lk l t .dead := by
  cases c <;> simp only [putH, lk, lk_rm] <;> split <;> rfl
theorem lk_putAll : ∀ (up H : List (Nat × HC)) (t : Nat), lk (putAll up H) t .dead = lk up t (lk H t .dead)
  | [], H, t => rfl
  | (k, c) :: r, H, t => by
    unfold putAll
    rw [lk_putH, lk_putAll r H t]
    rfl
def St.app (σ : St) (d : Option Nat) (R : Rs) : St := ⟨put σ.env d R.r, putAll R.up σ.H, σ.N + R.k⟩
def SR (P : Program) (cx : Cx) (n : Nat) (σ : St) (a : Act) (w : World) : Prop :=
  ∃ G I, GS P cx G I w σ.hp (fun t => σ.N ≤ t) ∧ a.defers = [] ∧ a.tmps.size = n ∧ ∀ s, VR G I w (σ.get s) (a.tmps.getD s undef)
theorem SR.ops {P : Program} {cx : Cx} {n : Nat} {σ : St} {a : Act} {w : World} {G : Gh} {I : Addr → Prop} (h : ∀ s, VR G I w (σ.get s) (a.tmps.getD s undef)) (x : Operand) : VR G I w (σ.ev x) (a.eval x) := by
  cases x with
  | tmp t => exact h t
  | const v => exact cst_rel G I w v
  | global g => exact .ud _
  | func f => exact .fn f [] #[] rfl (fun i x hx => by simp at hx)
def dOk (n : Nat) (d : Option Nat) : Prop :=
  match d with
  | some d => d < n
  | none => True
theorem SR.put {P : Program} {cx : Cx} {n : Nat} {σ : St} {a : Act} {w w' : World} {G G' : Gh} {I I' : Addr → Prop} (hd : a.defers = []) (hn : a.tmps.size = n) (h : ∀ s, VR G I w (σ.get s) (a.tmps.getD s undef)) (hm : Mono G I w G' I' w') {d : Option Nat} (hdn : dOk n d) {r : AV} {v : Value} (hv : VR G' I' w' r v)
    {H : List (Nat × HC)} {N : Nat} (hg : GS P cx G' I' w' (fun t => lk H t .dead) (fun t => N ≤ t)) : SR P cx n ⟨Go.Proofs.YtcbpghpfdjfddaaE.put σ.env d r, H, N⟩ (a.put d v) w' := by
  refine ⟨G', I', hg, ?_, ?_, fun s => ?_⟩
  · cases d <;> exact hd
  · cases d <;> simp [Act.put, hn]
  · cases d with
    | none => exact (h s).mono hm
    | some d =>
      show VR G' I' w' (lk ((d, r) :: rm σ.env d) s .ud) ((a.tmps.setIfInBounds d v).getD s undef)
      unfold lk
      by_cases e : d = s
      · subst e
        rw [if_pos rfl]
        have hd' : d < a.tmps.size := by rw [hn]; exact hdn
        have : (a.tmps.setIfInBounds d v).getD d undef = v := by simp [hd']
        rw [this]
        exact hv
      · rw [if_neg e, lk_rm, if_neg e]
        have : (a.tmps.setIfInBounds d v).getD s undef = a.tmps.getD s undef := by
          simp only [Array.getD_eq_getD_getElem?]
          rw [Array.getElem?_setIfInBounds_ne e]
        rw [this]
        exact (h s).mono hm
def yb : AV → Option (Option Bool)
  | .sc (.bool b) => some (some b)
  | .tp [] => some none
  | _ => none
def gB (σ : St) (ds : List (Option Nat)) (j : Nat) : Option (Option Bool) :=
  match ds[j]? with
  | some (some d) => yb (σ.get d)
  | _ => none
def sameB : Option Bool → Bool → Bool
  | some true, true => true
  | some false, false => true
  | _, _ => false
theorem sameB_eq {a : Option Bool} {b : Bool} : sameB a b = true ↔ a = some b := by cases a with
  | none => simp [sameB]
  | some a => cases a <;> cases b <;> simp [sameB]
theorem VR.skipped (G : Gh) (I : Addr → Prop) (w : World) : VR G I w (.tp []) undef := .tp [] #[] rfl (fun i x h => by simp at h)
theorem yield_any {ops : Array Oper} {G : Gh} {I : Addr → Prop} {w : World} {tmps : Array Value} {j d : Nat} {x : AV} {b : Option Bool} {o : Oper} (ho : ops[j]? = some o) (hd : o.dst = some d) (hv : VR G I w x (tmps.getD d undef)) (hb : yb x = some b) : yielded ops tmps j = b := by
  unfold yb at hb
  split at hb
  · rename_i b'
    injection hb with hb
    subst hb
    generalize hval : tmps.getD d undef = val at hv
    cases hv
    have hval' : tmps[d]? = some (.bool b') := by
      rcases Nat.lt_or_ge d tmps.size with h1 | h1
      · simp only [Array.getD_eq_getD_getElem?, Array.getElem?_eq_getElem h1, Option.getD_some] at hval
        rw [Array.getElem?_eq_getElem h1, hval]
      · simp only [Array.getD_eq_getD_getElem?, Array.getElem?_eq_none h1, Option.getD_none] at hval
        cases hval
    simp [yielded, ho, hd, hval']
  · injection hb with hb
    subst hb
    generalize hval : tmps.getD d undef = val at hv
    cases hv with
    | tp cs vs hn h =>
      rcases Nat.lt_or_ge d tmps.size with h1 | h1
      · simp only [Array.getD_eq_getD_getElem?, Array.getElem?_eq_getElem h1, Option.getD_some] at hval
        simp [yielded, ho, hd, Array.getElem?_eq_getElem h1, hval]
      · simp [yielded, ho, hd, Array.getElem?_eq_none h1]
  · cases hb
def evR (P : Program) (Γ : TEnv) (n : Nat) (ds : List (Option Nat)) (chs : List (Nat × Ch)) (K : St → Prop) : List Oper → Nat → St → Prop
  | [], _, σ => K σ
  | o :: os, i, σ =>
    match o.guard with
    | none => (match evO P Γ σ.ev σ.hp σ.N (lk chs i .no) o.op with | some R => dOk n o.dst ∧ R.side ∧ evR P Γ n ds chs K os (i + 1) (σ.app o.dst R) | none => False)
    | some (j, want) => (match gB σ ds j with
      | some b => (match sameB b want with
        | true => (match evO P Γ σ.ev σ.hp σ.N (lk chs i .no) o.op with | some R => dOk n o.dst ∧ R.side ∧ evR P Γ n ds chs K os (i + 1) (σ.app o.dst R) | none => False)
        | false => dOk n o.dst ∧ evR P Γ n ds chs K os (i + 1) ⟨put σ.env o.dst (.tp []), σ.H, σ.N⟩)
      | none => False)
theorem GS.ext {P : Program} {cx : Cx} {G : Gh} {I : Addr → Prop} {w : World} {h h' : Nat → HC} {F : Nat → Prop} (hg : GS P cx G I w h F) (e : ∀ t, h' t = h t) : GS P cx G I w h' F := by
  have : h' = h := funext e
  rw [this]
  exact hg
section
variable {P : Program} {Γ : TEnv} {cx : Cx} {n : Nat} {ops : Array Oper} {ds : List (Option Nat)} {chs : List (Nat × Ch)} {K : St → Prop} {Q : Exit → Act → World → Prop}
theorem step_one (hΓ : EOk P Γ) {o : Oper} {σ : St} {a : Act} {w : World} (hsr : SR P cx n σ a w) {R : Rs} {ch : Ch} (he : evO P Γ σ.ev σ.hp σ.N ch o.op = some R) (hd : dOk n o.dst) (hs : R.side) {K' : Act → World → Prop} (hK : ∀ a' w', SR P cx n (σ.app o.dst R) a' w' → K' a' w') : o.wp P a w K' Q := by
  obtain ⟨G, I, hg, hdf, hn, hv⟩ := hsr
  have := evO_sound (ev := a.eval) hΓ hg (fun x => SR.ops (P := P) (cx := cx) (n := n) hv x) he hs (fun t h1 _ => h1)
  refine this.wp fun v w' ⟨G', I', hg', hm, hr⟩ => hK _ _ ?_
  exact SR.put hdf hn hv hm hd hr ((hg'.weak (fun t ht => ⟨Nat.le_trans (Nat.le_add_right _ _) ht, fun e => Nat.lt_irrefl _ (Nat.lt_of_lt_of_le e.2 ht)⟩)).ext fun t => lk_putAll R.up σ.H t)
theorem gB_rel {σ : St} {a : Act} {w : World} (hsr : SR P cx n σ a w) (hds : ds = ops.toList.map (·.dst)) {j : Nat} {b : Option Bool} (h : gB σ ds j = some b) : yielded ops a.tmps j = b := by
  obtain ⟨G, I, hg, hdf, hn, hv⟩ := hsr
  unfold gB at h
  split at h
  · rename_i d hd
    rw [hds, List.getElem?_map] at hd
    obtain ⟨oj, hoj, hdst⟩ := Option.map_eq_some_iff.1 hd
    have hoj' : ops[j]? = some oj := by simpa using hoj
    exact yield_any hoj' hdst (hv d) h
  · cases h
theorem quiet_sound (hΓ : EOk P Γ) (hds : ds = ops.toList.map (·.dst)) (hK : ∀ σ a w, K σ → SR P cx n σ a w → Q .normal a w) : ∀ (l : List Oper) (i : Nat) (σ : St) (a : Act) (w : World), evR P Γ n ds chs K l i σ → SR P cx n σ a w → wpList P ops Q l a w
  | [], i, σ, a, w, he, hsr => hK σ a w he hsr
  | o :: os, i, σ, a, w, he, hsr => by
    have run : (match evO P Γ σ.ev σ.hp σ.N (lk chs i .no) o.op with | some R => dOk n o.dst ∧ R.side ∧ evR P Γ n ds chs K os (i + 1) (σ.app o.dst R) | none => False) → o.wp P a w (wpList P ops Q os) Q := by
      intro he
      cases hR : evO P Γ σ.ev σ.hp σ.N (lk chs i .no) o.op with
      | none => rw [hR] at he; exact he.elim
      | some R =>
        rw [hR] at he
        obtain ⟨h1, h2, h3⟩ := he
        exact step_one hΓ hsr hR h1 h2 fun a' w' h' => quiet_sound hΓ hds hK os (i + 1) _ a' w' h3 h'
    unfold wpList
    unfold evR at he
    split at he
    · rename_i hgd
      rw [if_pos (by simp [Region.wanted, hgd])]
      exact .inl (run he)
    · rename_i j want hgd
      cases hb : gB σ ds j with
      | none => rw [hb] at he; exact he.elim
      | some b =>
        rw [hb] at he
        have hy := gB_rel hsr hds hb
        simp only [] at he
        split at he
        · rename_i hbw
          have hbw := sameB_eq.1 hbw
          rw [if_pos (by simp [Region.wanted, hgd, hy, hbw])]
          exact .inl (run he)
        · rename_i hbw
          have hbw : b ≠ some want := fun e => by rw [sameB_eq.2 e] at hbw; cases hbw
          rw [if_neg (by simp [Region.wanted, hgd, hy, hbw])]
          obtain ⟨G, I, hg, hdf, hn, hv⟩ := hsr
          exact quiet_sound hΓ hds hK os (i + 1) _ _ _ he.2 (SR.put hdf hn hv (Mono.refl _ _ _) he.1 (VR.skipped _ _ _) hg)
end
end Go.Proofs.YtcbpghpfdjfddaaE
-- Declarations of the text that this claim uses (slim.py, a program of this session).
namespace Go.Proofs.YtcbpghpfdjfddaaE
open Go Go.RowKit
set_option linter.unusedVariables false
set_option linter.unusedSimpArgs false
def AWp (P : Program) (k0 n : Nat) (c : Code) (Q : Exit → St → Prop) (σ : St) : Prop :=
  ∀ cx : Cx, (∀ t, k0 ≤ t → cx.G0 t = none) → ∀ a w, SR P cx n σ a w → c.wp P (fun e a' w' => ∃ σ', Q e σ' ∧ SR P cx n σ' a' w') a w
def Ex.then (next : St → Prop) (Q : Exit → St → Prop) : Exit → St → Prop
  | .normal, σ => next σ
  | e, σ => Q e σ
def Ex.inBlock (id : Nat) (Q : Exit → St → Prop) : Exit → St → Prop
  | .exit id', σ => if id' = id then Q .normal σ else Q (.exit id') σ
  | e, σ => Q e σ
section
variable {P : Program} {Γ : TEnv} {k0 n : Nat} {Q Q' : Exit → St → Prop} {σ : St}
theorem awp_seq {x y : Code} (h : AWp P k0 n x (Ex.then (AWp P k0 n y Q) Q) σ) : AWp P k0 n (.seq x y) Q σ := by
  intro cx h0 a w hs
  refine wp_seq (Code.wp_mono (fun e a' w' ⟨σ', q, s⟩ => ?_) (h cx h0 a w hs))
  cases e with
  | normal => exact q cx h0 a' w' s
  | _ => exact ⟨σ', q, s⟩
theorem awp_seq_k {x y : Code} (h : ∀ K : St → Prop, (∀ σ', AWp P k0 n y Q σ' → K σ') → AWp P k0 n x (Ex.then K Q) σ) : AWp P k0 n (.seq x y) Q σ := awp_seq (h _ (fun _ h => h))
theorem awp_skip (h : Q .normal σ) : AWp P k0 n .skip Q σ := fun cx h0 a w hs => wp_skip ⟨σ, h, hs⟩
theorem awp_exit {id : Nat} (h : Q (.exit id) σ) : AWp P k0 n (.exit id) Q σ := fun cx h0 a w hs => wp_exit ⟨σ, h, hs⟩
theorem awp_ret (h : Q .ret σ) : AWp P k0 n .ret Q σ := fun cx h0 a w hs => wp_ret ⟨σ, h, hs⟩
theorem awp_block {id : Nat} {c : Code} (h : AWp P k0 n c (Ex.inBlock id Q) σ) : AWp P k0 n (.block id c) Q σ := by
  intro cx h0 a w hs
  refine wp_block (Code.wp_mono (fun e a' w' ⟨σ', q, s⟩ => ?_) (h cx h0 a w hs))
  cases e with
  | exit id' =>
    simp only [Ex.inBlock] at q
    simp only [Exit.inBlock]
    split at q
    · rename_i h; rw [if_pos h]; exact ⟨σ', q, s⟩
    · rename_i h; rw [if_neg h]; exact ⟨σ', q, s⟩
  | _ => exact ⟨σ', q, s⟩
theorem bool_of {cx : Cx} {a : Act} {w : World} (hs : SR P cx n σ a w) {c : Operand} {b : Bool} (h : σ.ev c = .sc (.bool b)) : a.eval c = .bool b := by
  obtain ⟨G, I, hg, _, _, hv⟩ := hs
  have := SR.ops (P := P) (cx := cx) (n := n) hv c
  rw [h] at this
  generalize a.eval c = v at this
  cases this
  rfl
theorem awp_true {c : Operand} {x y : Code} (h : σ.ev c = .sc (.bool true)) (hx : AWp P k0 n x Q σ) : AWp P k0 n (.cond c x y) Q σ :=
  fun cx h0 a w hs => wp_cond_true (bool_of hs h) (hx cx h0 a w hs)
theorem awp_false {c : Operand} {x y : Code} (h : σ.ev c = .sc (.bool false)) (hy : AWp P k0 n y Q σ) : AWp P k0 n (.cond c x y) Q σ :=
  fun cx h0 a w hs => wp_cond_false (bool_of hs h) (hy cx h0 a w hs)
theorem awp_cond {c : Operand} {x y : Code} (b : Bool) (h : σ.ev c = .sc (.bool b)) (hx : b = true → AWp P k0 n x Q σ) (hy : b = false → AWp P k0 n y Q σ) : AWp P k0 n (.cond c x y) Q σ :=
  fun cx h0 a w hs => wp_cond_split (bool_of hs h) (fun e => hx e cx h0 a w hs) (fun e => hy e cx h0 a w hs)
theorem awp_loop {c : Code} (J : Nat → St → Prop) (m : Nat) (h : J m σ) (round : ∀ m σ, J m σ → AWp P k0 n c (Ex.then (fun σ' => ∃ m', m' < m ∧ J m' σ') Q) σ) : AWp P k0 n (.loop c) Q σ := by
  intro cx h0 a w hs
  refine wp_loop_ghost (fun m a w => ∃ σ, J m σ ∧ SR P cx n σ a w) m ⟨σ, h, hs⟩ ?_
  rintro m a w ⟨σ, hJ, hs⟩
  refine Code.wp_mono (fun e a' w' ⟨σ', q, s⟩ => ?_) (round m σ hJ cx h0 a w hs)
  cases e with
  | normal =>
    obtain ⟨m', hm, hJ'⟩ := q
    exact ⟨m', hm, σ', hJ', s⟩
  | _ => exact ⟨σ', q, s⟩
def idx {α : Type} : List α → Nat → List (Nat × α)
  | [], _ => []
  | x :: r, i => (i, x) :: idx r (i + 1)
theorem lk_idx {α : Type} (d : α) : ∀ (l : List α) (i s : Nat), lk (idx l i) s d = if i ≤ s then l.getD (s - i) d else d
  | [], i, s => by simp [idx, lk]
  | x :: r, i, s => by
    unfold idx lk
    rw [lk_idx d r (i + 1) s]
    by_cases e : i = s
    · subst e; simp
    · rw [if_neg e]
      by_cases h : i ≤ s
      · rw [if_pos (by omega), if_pos h, show s - i = (s - (i + 1)) + 1 by omega]
        simp
      · rw [if_neg (by omega), if_neg h]
def idr (ids : List Nat) (i : Nat) : Nat := ids.getD i 0
def GcOk (k0 : Nat) (σ : St) (ids : List Nat) (Hs : List HC) (env : List (Nat × AV)) : Prop :=
  ids.length = Hs.length ∧ ids.Nodup ∧ (∀ i, i < k0 → ids[i]? = some i) ∧ ids.map σ.hp = Hs.map (HC.ren (idr ids)) ∧ Hs.all (HC.lt Hs.length) = true ∧ ∀ p ∈ env, σ.get p.1 = p.2.ren (idr ids) ∧ p.2.lt Hs.length = true
theorem lk_mem {α : Type} {d : α} : ∀ (l : List (Nat × α)) (s : Nat), lk l s d = d ∨ (s, lk l s d) ∈ l
  | [], s => .inl rfl
  | (k, v) :: r, s => by
    unfold lk
    split
    · rename_i h; subst h; exact .inr (List.mem_cons_self ..)
    · rcases lk_mem r s with h | h
      · exact .inl h
      · exact .inr (List.mem_cons_of_mem _ h)
theorem GS.sub {cx : Cx} {G : Gh} {I : Addr → Prop} {w : World} {H : Nat → HC} {F : Nat → Prop} (hg : GS P cx G I w H F) (h0 : ∀ t, k0 ≤ t → cx.G0 t = none) {ids : List Nat} {Hs : List HC} (hl : ids.length = Hs.length) (hnd : ids.Nodup) (hk : ∀ i, i < k0 → ids[i]? = some i)
    (hm : ids.map H = Hs.map (HC.ren (idr ids))) (hlv : Hs.all (HC.lt Hs.length) = true) : GS P cx (subG G ids) I w (lst Hs) (fun t => Hs.length ≤ t) := by
  have hm' : ∀ (i t : Nat) (c : HC), ids[i]? = some t → Hs[i]? = some c → H t = c.ren (idr ids) ∧ c.lt Hs.length = true := fun i t c h1 h2 => by
    have e := congrArg (fun l => l[i]?) hm
    simp only [List.getElem?_map, h1, h2, Option.map_some] at e
    exact ⟨Option.some.inj e, List.all_eq_true.1 hlv c (List.mem_of_getElem? h2)⟩
  refine ⟨hg.h.sub (f := idr ids) (fun i t h1 => by unfold idr; simp [h1]) hnd hl hm', ⟨hg.c.os, hg.c.tape, hg.c.output, hg.c.size, hg.c.frame, hg.c.up, fun i b hb => ?_, ⟨fun t v ht => ?_, hg.c.mono.2⟩, hg.c.inew⟩⟩
  · rcases Nat.lt_or_ge i Hs.length with hi | hi
    · have h1 : ids[i]? = some ids[i] := List.getElem?_eq_getElem (by omega)
      have h2 : Hs[i]? = some Hs[i] := List.getElem?_eq_getElem hi
      obtain ⟨q1, _⟩ := hm' i _ _ h1 h2
      refine hg.c.live ids[i] b ?_
      rw [q1, blk_ren]
      rw [lst_get h2] at hb
      unfold subG at hb
      rw [h1] at hb
      exact hb
    · rw [lst_none hi] at hb; cases hb
  · have ht0 : t < k0 := by
      rcases Nat.lt_or_ge t k0 with h | h
      · exact h
      · rw [h0 t h] at ht; cases ht
    unfold subG
    rw [hk t ht0]
    exact hg.c.mono.1 t v ht
theorem subG_idr {G : Gh} {ids : List Nat} {k : Nat} (hl : ids.length = k) : ∀ i, i < k → subG G ids i = G (idr ids i) := fun i hi => by
  have h1 : ids[i]? = some ids[i] := List.getElem?_eq_getElem (by omega)
  unfold subG idr
  simp [h1]
def resA (Γ : TEnv) (σ : St) : List ResultVar → Option (List AV)
  | [] => some []
  | .tmp t :: r => (resA Γ σ r).map fun l => σ.get t :: l
  | .cell a t :: r => (match Γ t, σ.get a, resA Γ σ r with
    | some i, .pt id off, some l => (match σ.hp id with | .bx cs => (ld i cs off).map fun x => x :: l | _ => none)
    | _, _, _ => none)
def retA : List AV → AV
  | [x] => x
  | l => .tp l
theorem resA_run (hΓ : EOk P Γ) {cx : Cx} {G : Gh} {I : Addr → Prop} {w : World} {tmps : Array Value} (hg : GS P cx G I w σ.hp (fun t => σ.N ≤ t)) (hv : ∀ s, VR G I w (σ.get s) (tmps.getD s undef)) :
    ∀ (rs : List ResultVar) (l : List AV), resA Γ σ rs = some l → ∃ vs : List Value, (rs.mapM (fun (r : ResultVar) => (match r with | .tmp t => (pure (tmps.getD t undef) : Sem Value) | .cell a t => do loadVar t (← asAddr (tmps.getD a undef))))).run P w = .ok vs w ∧ vs.length = l.length ∧ ∀ (i : Nat) (x : AV), l[i]? = some x → VR G I w x (vs.getD i undef)
  | [], l, h => by injection h with h; subst h; exact ⟨[], by simp, rfl, fun i x hx => by simp at hx⟩
  | .tmp t :: r, l, h => by
    simp only [resA] at h
    obtain ⟨l', hl', rfl⟩ := Option.map_eq_some_iff.1 h
    obtain ⟨vs, h1, h2, h3⟩ := resA_run hΓ hg hv r l' hl'
    refine ⟨tmps.getD t undef :: vs, by simp only [List.mapM_cons, Sem.run_bind, Sem.run_pure, Result.andThen_ok, h1], by simp [h2], fun i x hx => ?_⟩
    cases i with
    | zero => injection hx with hx; subst hx; exact hv t
    | succ i => exact h3 i x hx
  | .cell a t :: r, l, h => by
    simp only [resA] at h
    cases hi : Γ t with
    | none => rw [hi] at h; cases h
    | some ti =>
      cases ha : σ.get a with
      | pt id off =>
        cases hr : resA Γ σ r with
        | none => rw [hi, ha, hr] at h; cases h
        | some l' =>
          rw [hi, ha, hr] at h
          simp only [] at h
          cases hb : σ.hp id with
          | bx cs =>
            rw [hb] at h
            simp only [] at h
            obtain ⟨x, hx, rfl⟩ := Option.map_eq_some_iff.1 h
            obtain ⟨vs, h1, h2, h3⟩ := resA_run hΓ hg hv r l' hr
            have hva := hv a
            rw [ha] at hva
            generalize hval : tmps.getD a undef = va at hva
            cases hva with
            | pt _ _ b hG =>
              have hc := hg.h.cr id
              rw [hb, hG] at hc
              obtain ⟨v, hvr, hvx⟩ := ld_sound (hΓ t ti hi) rfl (MemAt.box hc) hx
              rw [add_lit, Nat.zero_add] at hvr
              have hasa : (asAddr (tmps.getD a undef)).run P w = .ok ⟨b, off, none⟩ w := by rw [hval]; simp [asAddr]
              refine ⟨v :: vs, by simp only [List.mapM_cons, Sem.run_bind, Sem.run_pure, Result.andThen_ok, h1, hasa, hvr], by simp [h2], fun i y hy => ?_⟩
              cases i with
              | zero => injection hy with hy; subst hy; exact hvx
              | succ i => exact h3 i y hy
          | _ => rw [hb] at h; cases h
      | _ => rw [hi, ha] at h; cases h
theorem results_sound (hΓ : EOk P Γ) {cx : Cx} {G : Gh} {I : Addr → Prop} {w : World} {fd : Func} {tmps : Array Value} (hg : GS P cx G I w σ.hp (fun t => σ.N ≤ t)) (hv : ∀ s, VR G I w (σ.get s) (tmps.getD s undef)) {l : List AV} (h : resA Γ σ fd.results.toList = some l) :
    ∃ v, (results fd tmps).run P w = .ok v w ∧ VR G I w (retA l) v := by
  obtain ⟨vs, h1, h2, h3⟩ := resA_run hΓ hg hv fd.results.toList l h
  have hrun : (results fd tmps).run P w = .ok (if h : vs.toArray.size = 1 then vs.toArray[0] else .tuple vs.toArray) w := by
    unfold results
    rw [Array.mapM_eq_mapM_toList]
    simp only [Sem.run_bind, Sem.run_map]
    erw [h1]
    simp
  refine ⟨_, hrun, ?_⟩
  match l, vs, h2, h3 with
  | [x], [v], _, h3 => exact h3 0 x rfl
  | [], [], _, h3 => exact .tp _ _ rfl (fun i x hx => by simp at hx)
  | x :: y :: r, v :: u :: q, h2, h3 =>
    have : ¬ ((v :: u :: q).toArray.size = 1) := by simp
    rw [dif_neg this]
    exact .tp _ _ (by simpa using h2) (fun i x hx => by have := h3 i x hx; simpa using this)
def Fin (Γ : TEnv) (rs : List ResultVar) (k0 : Nat) (r : AV) (Hr : List HC) (e : Exit) (σ : St) : Prop :=
  (e = .normal ∨ e = .ret) ∧ ∃ l ids, resA Γ σ rs = some l ∧ retA l = r.ren (idr ids) ∧ r.lt Hr.length = true ∧ ids.length = Hr.length ∧ ids.Nodup ∧ (∀ i, i < k0 → ids[i]? = some i) ∧ ids.map σ.hp = Hr.map (HC.ren (idr ids)) ∧ Hr.all (HC.lt Hr.length) = true
theorem tri_of (hΓ : EOk P Γ) {f : FuncId} {fd : Func} {c : Code} {ags : List AV} {Hc Hr : List HC} {r : AV} {rs : List ResultVar} (hf : P.funcs[f]? = some fd) (hnm : (fd.name == "runtime.NumGoroutine") = false) (hb : fd.body = some c) (hnt : fd.ntmps = n) (hle : ags.length ≤ n) (hrs : fd.results.toList = rs) (hHr : Hc.length ≤ Hr.length)
    (h : AWp P Hc.length n c (Fin Γ rs Hc.length r Hr) ⟨idx ags 0, idx Hc 0, Hc.length⟩) : Tri P f ags Hc r Hr := by
  refine ⟨⟨fd, hf, hnm, by rw [hb]; rfl⟩, hHr, fun G I w vs hr hn hv => ?_⟩
  refine calls_of_wp hf hb ?_
  have h0 : ∀ t, Hc.length ≤ t → (cx0 G I w (lst Hc)).G0 t = none := fun t ht => (hr.dom t ht).2
  refine Code.wp_mono ?_ (h (cx0 G I w (lst Hc)) h0 _ w ⟨G, I, GS.ext ⟨hr, CRel.init⟩ (fun t => ?_), rfl, ?_, fun s => ?_⟩)
  · rintro e a w' ⟨σ', ⟨he, l, ids, h1, h2, h3, h4, h5, h6, h7, h8⟩, G', I', hg, hd, hsz, hvs⟩
    rw [← hrs] at h1
    obtain ⟨v, hrun, hvr⟩ := results_sound hΓ hg hvs h1
    have hgs := hg.sub h0 h4 h5 h6 h7 h8
    rw [h2] at hvr
    have hfin := hvr.unren (subG_idr h4) r rfl h3
    rcases he with rfl | rfl
    · exact ⟨hd, v, hrun, v, _, _, rfl, hgs, hfin⟩
    · exact ⟨hd, v, hrun, v, _, _, rfl, hgs, hfin⟩
  · show lk (idx Hc 0) t .dead = lst Hc t
    rw [lk_idx]
    simp [lst]
  · simp [hnt, hn]
    omega
  · show VR G I w (lk (idx ags 0) s .ud) _
    rw [lk_idx, if_pos (Nat.zero_le _), Nat.sub_zero]
    rcases Nat.lt_or_ge s ags.length with hs | hs
    · have h1 : ags[s]? = some ags[s] := List.getElem?_eq_getElem hs
      have e1 : ags.getD s .ud = ags[s] := by simp [h1]
      have e2 : (vs ++ Array.replicate (fd.ntmps - vs.size) undef).getD s undef = vs.getD s undef := by
        simp only [Array.getD_eq_getD_getElem?]
        rw [Array.getElem?_append_left (by omega)]
      rw [e1, e2]
      exact hv s _ h1
    · rw [show ags.getD s .ud = .ud by simp [hs]]
      exact .ud _
end
attribute [go_sem] sameB yb nilA evR evO St.ev St.get St.hp St.app lk rm put putH putAll upds gB dOk cst zc AV.cells AV.leaf D.av AV.dat TK.agg ld loadA storeA boxA allocA fldOf shift fieldAddrA fieldA elOf szOf indexAddrA resI resB Rs.and intA strA leafEq kLeaf eqFl flOf structA isBool boolA binA unA intK isStr convA lenOfA lenA intO cutHi cutLo sliceA extractA minA maxA fillA placesA flds zvO agO buildA plO datL setParts litA srcOf appA AV.ren AV.renL AV.lt AV.ltL HC.ren HC.lt idf upF callA pickA tiO funcA bltA idx idr resA retA Value.cells Ex.then Ex.inBlock
attribute [go_sem] List.length_cons List.length_nil List.getElem?_cons_zero List.getElem?_cons_succ List.getElem?_nil List.drop_zero List.drop_succ_cons List.drop_nil List.take_succ_cons List.take_zero List.take_nil List.nil_append List.cons_append List.append_nil List.map_cons List.map_nil List.all_cons List.all_nil List.mapM_cons List.mapM_nil Option.map_some Option.map_none Option.getD_some Option.getD_none Bool.and_true Bool.true_and Bool.and_false Bool.false_and Bool.not_true Bool.not_false and_true true_and and_self List.toList_toArray List.replicate_succ List.replicate_zero List.set_cons_zero List.set_cons_succ List.length_map List.length_append Int.toNat_natCast if_true if_false ite_true ite_false Option.bind_eq_bind Option.bind_some Option.pure_def Nat.add_zero Nat.zero_add Nat.sub_zero Nat.sub_self
end Go.Proofs.YtcbpghpfdjfddaaE
-- Declarations of the text that this claim uses (slim.py, a program of this session).
namespace Go.Proofs.YtcbpghpfdjfddaaE
open Go Go.RowKit
set_option linter.unusedVariables false
set_option linter.unusedSimpArgs false
theorem map_agree {α : Type} {l : List Operand} {f g : Operand → α} (h : ∀ x ∈ l, f x = g x) : l.map f = l.map g := List.map_congr_left h
theorem evO_agree {P : Program} {Γ : TEnv} {ρ ρ' : Operand → AV} {h h' : Nat → HC} {N : Nat} {ch : Ch} {op : Op} {R : Rs} (hρ : ∀ x ∈ op.operands.toList, ρ x = ρ' x) (he : evO P Γ ρ h N ch op = some R) (hh : ∀ t ∈ R.rd, h t = h' t) : evO P Γ ρ' h' N ch op = some R := by
  have hload : ∀ (i : Option TI) (x : AV), loadA i h x ch = some R → loadA i h' x ch = some R := by
    intro i x hl
    unfold loadA at hl ⊢
    split at hl
    · rename_i id off
      cases hc : h id with
      | bx cs =>
        rw [hc] at hl
        obtain ⟨r, hr, rfl⟩ := Option.map_eq_some_iff.1 hl
        have := hh id (by simp)
        simp only [← this, hc, hr]
        rfl
      | _ => rw [hc] at hl; cases hl
    · exact hl
    · rename_i id sz j off
      cases hc : h id with
      | row e sz' xs =>
        rw [hc] at hl
        cases ch with
        | row r =>
          obtain ⟨r', hr, rfl⟩ := Option.map_eq_some_iff.1 hl
          have := hh id (by simp)
          simp only [← this, hc, hr]
          rfl
        | _ => cases hl
      | _ => rw [hc] at hl; cases hl
    · cases hl
  have hstore : ∀ (i : Option TI) (x y : AV), storeA i h x y = some R → storeA i h' x y = some R := by
    intro i x y hl
    unfold storeA at hl ⊢
    split at hl
    · rename_i id off
      cases hc : h id with
      | bx cs =>
        rw [hc] at hl
        simp only [] at hl
        split at hl
        · rename_i hk
          injection hl with hl
          subst hl
          have := hh id (by simp)
          simp only [← this, hc]
          rw [if_pos hk]
        · cases hl
      | _ => rw [hc] at hl; cases hl
    · cases hl
  have hindex : ∀ (i : Option Nat) (x y : AV), indexAddrA i h x y ch = some R → indexAddrA i h' x y ch = some R := by
    intro i x y hl
    unfold indexAddrA at hl ⊢
    split at hl
    · exact hl
    · rename_i id k n
      cases hc : h id with
      | row e sz' xs =>
        rw [hc] at hl
        injection hl with hl
        subst hl
        have := hh id (by simp)
        simp only [← this, hc]
      | _ => rw [hc] at hl; cases hl
    · cases hl
  have hlenO : ∀ (x : AV) (n : Nat) (rd : List Nat), lenOfA h x = some (n, rd) → (∀ t ∈ rd, h t = h' t) → lenOfA h' x = some (n, rd) := by
    intro x n rd hl hr
    unfold lenOfA at hl ⊢
    split at hl
    · exact hl
    · exact hl
    · rename_i id
      cases hc : h id with
      | row e sz' xs =>
        rw [hc] at hl
        injection hl with hl
        injection hl with h1 h2
        subst h1
        subst h2
        have := hr id (by simp)
        simp only [← this, hc]
      | _ => rw [hc] at hl; cases hl
    · cases hl
  have hsrc : ∀ (y : AV) (q : Option Nat × List (List D) × List Nat), srcOf h y = some q → (∀ t ∈ q.2.2, h t = h' t) → srcOf h' y = some q := by
    intro y q hl hr
    unfold srcOf at hl ⊢
    split at hl
    · exact hl
    · exact hl
    · rename_i id
      cases hc : h id with
      | row e sz' xs =>
        rw [hc] at hl
        injection hl with hl
        subst hl
        have := hr id (by simp)
        simp only [← this, hc]
      | _ => rw [hc] at hl; cases hl
    · cases hl
  unfold evO at he ⊢
  split at he
  · rename_i x; rw [← hρ x (by simp [Op.operands])]; exact he
  · rename_i x; rw [← hρ x (by simp [Op.operands])]; exact he
  · rename_i c x y; rw [← hρ c (by simp [Op.operands]), ← hρ x (by simp [Op.operands]), ← hρ y (by simp [Op.operands])]; exact he
  · exact he
  · rename_i t x; rw [← hρ x (by simp [Op.operands])]; exact he
  · rename_i t parts
    have : (parts.toList.map fun p => (p.1, ρ p.2)) = parts.toList.map fun p => (p.1, ρ' p.2) := List.map_congr_left fun p hp => by rw [hρ p.2 (by simp only [Op.operands]; exact List.mem_map.2 ⟨p, hp, rfl⟩)]
    simp only [this] at he
    exact he
  · rename_i t n parts
    have : (parts.toList.map fun p => (p.1, ρ p.2)) = parts.toList.map fun p => (p.1, ρ' p.2) := List.map_congr_left fun p hp => by rw [hρ p.2 (by simp only [Op.operands]; exact List.mem_map.2 ⟨p, hp, rfl⟩)]
    simp only [this] at he
    exact he
  · rename_i t x; rw [← hρ x (by simp [Op.operands])]; exact hload _ _ he
  · rename_i t x y; rw [← hρ x (by simp [Op.operands]), ← hρ y (by simp [Op.operands])]; exact hstore _ _ _ he
  · rename_i op t x y ty; rw [← hρ x (by simp [Op.operands]), ← hρ y (by simp [Op.operands])]; exact he
  · rename_i op t x; rw [← hρ x (by simp [Op.operands])]; exact he
  · rename_i s d x; rw [← hρ x (by simp [Op.operands])]; exact he
  · rename_i t x lo hi mx
    have e1 : ∀ o : Option Operand, (∀ x, o = some x → ρ x = ρ' x) → o.map ρ = o.map ρ' := fun o ho => by cases o with | none => rfl | some x => simp [ho x rfl]
    rw [← hρ x (by simp [Op.operands]), ← e1 lo (fun y hy => hρ y (by subst hy; simp [Op.operands])), ← e1 hi (fun y hy => hρ y (by subst hy; simp [Op.operands])), ← e1 mx (fun y hy => hρ y (by subst hy; simp [Op.operands]))]
    exact he
  · rename_i t x k; rw [← hρ x (by simp [Op.operands])]; exact he
  · rename_i t x k; rw [← hρ x (by simp [Op.operands])]; exact he
  · rename_i t x i; rw [← hρ x (by simp [Op.operands]), ← hρ i (by simp [Op.operands])]; exact hindex _ _ _ he
  · rename_i x k; rw [← hρ x (by simp [Op.operands])]; exact he
  · rename_i x; rw [← hρ x (by simp [Op.operands])]; exact he
  · rename_i fn first cap
    rw [← map_agree (l := first.toList) (fun x hx => hρ x (by simp [Op.operands]; exact .inl (by simpa using hx))), ← map_agree (l := cap.toList) (fun x hx => hρ x (by simp [Op.operands]; exact .inr (by simpa using hx)))]
    exact he
  · rename_i c
    obtain ⟨callee, args, tys⟩ := c
    simp only [] at he ⊢
    have ha : args.toList.map ρ = args.toList.map ρ' := map_agree fun x hx => hρ x (by simp only [Op.operands, Call.operands]; simp; exact .inr (by simpa using hx))
    split at he
    · rename_i fo
      have hf := hρ fo (by simp [Op.operands, Call.operands])
      rw [← hf, ← ha]
      unfold callA at he ⊢
      split at he
      · injection he with he
        subst he
        simp only [Option.some.injEq]
        congr 1
        unfold CallSide
        rw [List.map_congr_left (f := h') (g := h) (fun t ht => (hh t ht).symm)]
      · cases he
    · rename_i b
      rw [← ha]
      unfold bltA at he ⊢
      split at he
      · rename_i x t hx ht
        unfold lenA at he ⊢
        split at he
        · exact he
        · rename_i hns
          cases hel : elOf (Γ t) with
          | none => rw [hel] at he; cases he
          | some e =>
            cases hl : lenOfA h x with
            | none => rw [hel, hl] at he; cases he
            | some q =>
              obtain ⟨n, rd⟩ := q
              rw [hel, hl] at he
              injection he with he
              subst he
              rw [hlenO x n rd hl hh]
      · exact he
      · exact he
      · rename_i x y t t2 hx ht
        cases hq : srcOf h y with
        | none =>
          rw [hq] at he
          unfold appA at he
          split at he
          · rename_i hq2; cases hq2
          · cases he
        | some q =>
          have hrd : ∀ t ∈ q.2.2, t ∈ R.rd := by
            intro s hs
            rw [hq] at he
            unfold appA at he
            split at he
            · rename_i hq2
              injection hq2 with hq2
              subst hq2
              split at he
              · injection he with he; subst he; exact hs
              · split at he
                · injection he with he; subst he; exact List.mem_cons_of_mem _ hs
                · cases he
              · cases he
            · cases he
          rw [hsrc y q hq (fun s hs => hh s (hrd s hs))]
          rw [hq] at he
          unfold appA at he ⊢
          split at he
          · split at he
            · exact he
            · rename_i id
              cases hc : h id with
              | row e' sz xs =>
                rw [hc] at he
                injection he with he
                subst he
                have := hh id (by simp)
                simp only [← this, hc]
              | _ => rw [hc] at he; cases he
            · cases he
          · cases he
      · cases he
    · cases he
  · cases he
end Go.Proofs.YtcbpghpfdjfddaaE
-- Declarations of the text that this claim uses (slim.py, a program of this session).
namespace Go.Proofs.YtcbpghpfdjfddaaE
open Go Go.RowKit
set_option linter.unusedVariables false
set_option linter.unusedSimpArgs false
abbrev Sk := List Nat × List Nat
def skOf (R : Rs) : Sk := (R.up.map (·.1), R.rd)
def skip : Rs := { r := .tp [] }
def evL (P : Program) (Γ : TEnv) (n : Nat) (ds : List (Option Nat)) (chs : List (Nat × Ch)) (K : St → List Sk → Prop) : List Oper → Nat → St → List Sk → Prop
  | [], _, σ, sks => K σ sks
  | o :: os, i, σ, sks =>
    match o.guard with
    | none => (match evO P Γ σ.ev σ.hp σ.N (lk chs i .no) o.op with | some R => dOk n o.dst ∧ R.side ∧ evL P Γ n ds chs K os (i + 1) (σ.app o.dst R) (sks ++ [skOf R]) | none => False)
    | some (j, want) => (match gB σ ds j with
      | some b => (match sameB b want with
        | true => (match evO P Γ σ.ev σ.hp σ.N (lk chs i .no) o.op with | some R => dOk n o.dst ∧ R.side ∧ evL P Γ n ds chs K os (i + 1) (σ.app o.dst R) (sks ++ [skOf R]) | none => False)
        | false => dOk n o.dst ∧ evL P Γ n ds chs K os (i + 1) (σ.app o.dst skip) (sks ++ [skOf skip]))
      | none => False)
def Did (P : Program) (Γ : TEnv) (n : Nat) (ds : List (Option Nat)) (chs : List (Nat × Ch)) (o : Oper) (i : Nat) (σ : St) (R : Rs) : Prop :=
  dOk n o.dst ∧ ((evO P Γ σ.ev σ.hp σ.N (lk chs i .no) o.op = some R ∧ R.side ∧ (o.guard = none ∨ ∃ j want, o.guard = some (j, want) ∧ gB σ ds j = some (some want))) ∨ (R = skip ∧ ∃ j want b, o.guard = some (j, want) ∧ gB σ ds j = some b ∧ b ≠ some want))
def Runs (P : Program) (Γ : TEnv) (n : Nat) (ds : List (Option Nat)) (chs : List (Nat × Ch)) : List Oper → Nat → St → List Rs → St → Prop
  | [], _, σ, [], σ' => σ' = σ
  | o :: os, i, σ, R :: Rs, σ' => Did P Γ n ds chs o i σ R ∧ Runs P Γ n ds chs os (i + 1) (σ.app o.dst R) Rs σ'
  | _, _, _, _, _ => False
theorem evL_runs {P : Program} {Γ : TEnv} {n : Nat} {ds : List (Option Nat)} {chs : List (Nat × Ch)} {K : St → List Sk → Prop} : ∀ (os : List Oper) (i : Nat) (σ : St) (sks : List Sk), evL P Γ n ds chs K os i σ sks → ∃ Rs σ', Runs P Γ n ds chs os i σ Rs σ' ∧ K σ' (sks ++ Rs.map skOf)
  | [], i, σ, sks, h => ⟨[], σ, rfl, by simpa [evL] using h⟩
  | o :: os, i, σ, sks, h => by
    have run : ∀ g : o.guard = none ∨ ∃ j want, o.guard = some (j, want) ∧ gB σ ds j = some (some want), (match evO P Γ σ.ev σ.hp σ.N (lk chs i .no) o.op with | some R => dOk n o.dst ∧ R.side ∧ evL P Γ n ds chs K os (i + 1) (σ.app o.dst R) (sks ++ [skOf R]) | none => False) →
        ∃ Rs σ', Runs P Γ n ds chs (o :: os) i σ Rs σ' ∧ K σ' (sks ++ Rs.map skOf) := by
      intro g h
      cases hR : evO P Γ σ.ev σ.hp σ.N (lk chs i .no) o.op with
      | none => rw [hR] at h; exact h.elim
      | some R =>
        rw [hR] at h
        obtain ⟨h1, h2, h3⟩ := h
        obtain ⟨Rs, σ', r1, r2⟩ := evL_runs os (i + 1) _ _ h3
        exact ⟨R :: Rs, σ', ⟨⟨h1, .inl ⟨hR, h2, g⟩⟩, r1⟩, by simpa using r2⟩
    unfold evL at h
    split at h
    · rename_i hgd; exact run (.inl hgd) h
    · rename_i j want hgd
      cases hb : gB σ ds j with
      | none => rw [hb] at h; exact h.elim
      | some b =>
        rw [hb] at h
        simp only [] at h
        split at h
        · rename_i hbw
          have := sameB_eq.1 hbw
          subst this
          exact run (.inr ⟨j, want, hgd, hb⟩) h
        · rename_i hbw
          have hne : b ≠ some want := fun e => by rw [sameB_eq.2 e] at hbw; cases hbw
          obtain ⟨Rs, σ', r1, r2⟩ := evL_runs os (i + 1) _ _ h.2
          exact ⟨skip :: Rs, σ', ⟨⟨h.1, .inr ⟨rfl, j, want, b, hgd, hb, hne⟩⟩, r1⟩, by simpa using r2⟩
abbrev EnvH := (Nat → AV) × (Nat → HC)
def setD (env : Nat → AV) (d : Option Nat) (v : AV) : Nat → AV := fun s => if d = some s then v else env s
def one (d : Option Nat) (R : Rs) (e : EnvH) : EnvH := (setD e.1 d R.r, upds e.2 R.up)
def appS (S : Nat → Bool) : List (Option Nat × Rs) → Nat → EnvH → EnvH
  | [], _, e => e
  | (d, R) :: r, i, e => appS S r (i + 1) (if S i = true then one d R e else e)
theorem appS_env (S S' : Nat → Bool) (s : Nat) : ∀ (L : List (Option Nat × Rs)) (i : Nat) (e e' : EnvH), e.1 s = e'.1 s → (∀ j d R, L[j]? = some (d, R) → d = some s → S (i + j) = S' (i + j)) → (appS S L i e).1 s = (appS S' L i e').1 s
  | [], i, e, e', he, _ => he
  | (d, R) :: r, i, e, e', he, h => by
    unfold appS
    refine appS_env S S' s r (i + 1) _ _ ?_ (fun j d' R' h1 h2 => by have := h (j + 1) d' R' h1 h2; rwa [show i + (j + 1) = i + 1 + j by omega] at this)
    by_cases hd : d = some s
    · have := h 0 d R rfl hd
      rw [Nat.add_zero] at this
      rw [this]
      cases S' i
      · exact he
      · simp [one, setD, hd]
    · have e1 : ∀ x : EnvH, (one d R x).1 s = x.1 s := fun x => by simp [one, setD, hd]
      cases S i <;> cases S' i <;> simp [e1, he]
theorem lk_none {α : Type} : ∀ (l : List (Nat × α)) (t : Nat) (d : α), (∀ p ∈ l, p.1 ≠ t) → lk l t d = d
  | [], t, d, _ => rfl
  | (k, v) :: r, t, d, h => by
    unfold lk
    rw [if_neg (h (k, v) (List.mem_cons_self ..))]
    exact lk_none r t d (fun p hp => h p (List.mem_cons_of_mem _ hp))
theorem lk_some {α : Type} : ∀ (l : List (Nat × α)) (t : Nat) (d d' : α), (∃ p ∈ l, p.1 = t) → lk l t d = lk l t d'
  | [], t, d, d', h => by obtain ⟨p, hp, _⟩ := h; cases hp
  | (k, v) :: r, t, d, d', h => by
    unfold lk
    split
    · rfl
    · rename_i hk
      obtain ⟨p, hp, hpt⟩ := h
      rcases List.mem_cons.1 hp with rfl | hp
      · exact (hk hpt).elim
      · exact lk_some r t d d' ⟨p, hp, hpt⟩
theorem appS_hp (S S' : Nat → Bool) (t : Nat) : ∀ (L : List (Option Nat × Rs)) (i : Nat) (e e' : EnvH), e.2 t = e'.2 t → (∀ j d R, L[j]? = some (d, R) → t ∈ R.up.map (·.1) → S (i + j) = S' (i + j)) → (appS S L i e).2 t = (appS S' L i e').2 t
  | [], i, e, e', he, _ => he
  | (d, R) :: r, i, e, e', he, h => by
    unfold appS
    refine appS_hp S S' t r (i + 1) _ _ ?_ (fun j d' R' h1 h2 => by have := h (j + 1) d' R' h1 h2; rwa [show i + (j + 1) = i + 1 + j by omega] at this)
    by_cases hd : t ∈ R.up.map (·.1)
    · have := h 0 d R rfl hd
      rw [Nat.add_zero] at this
      rw [this]
      cases S' i
      · exact he
      · simp only [if_true, one, upds]
        obtain ⟨p, hp, hpt⟩ := List.mem_map.1 hd
        exact lk_some _ _ _ _ ⟨p, hp, hpt⟩
    · have e1 : ∀ x : EnvH, (one d R x).2 t = x.2 t := fun x => lk_none _ _ _ (fun p hp e => hd (List.mem_map.2 ⟨p, hp, e⟩))
      cases S i <;> cases S' i <;> simp [e1, he]
def Apt (x y : Option Nat × Rs) : Prop := (∀ s, x.1 = some s → y.1 ≠ some s) ∧ ∀ t, t ∈ x.2.up.map (·.1) → t ∉ y.2.up.map (·.1)
theorem one_comm {x y : Option Nat × Rs} (h : Apt x y) (e : EnvH) : one x.1 x.2 (one y.1 y.2 e) = one y.1 y.2 (one x.1 x.2 e) := by
  unfold one
  congr 1
  · funext s
    simp only [setD]
    by_cases h1 : x.1 = some s
    · rw [if_pos h1, if_neg (h.1 s h1), if_pos h1]
    · rw [if_neg h1]
      by_cases h2 : y.1 = some s
      · rw [if_pos h2, if_pos h2]
      · rw [if_neg h2, if_neg h2, if_neg h1]
  · funext t
    simp only [upds]
    by_cases h1 : t ∈ x.2.up.map (·.1)
    · have h2 := h.2 t h1
      have e0 : ∀ d, lk y.2.up t d = d := fun d => lk_none y.2.up t d (fun q hq e => h2 (List.mem_map.2 ⟨q, hq, e⟩))
      rw [e0, e0]
    · have e0 : ∀ d, lk x.2.up t d = d := fun d => lk_none x.2.up t d (fun q hq e => h1 (List.mem_map.2 ⟨q, hq, e⟩))
      rw [e0, e0]
theorem appS_one (S : Nat → Bool) (x : Option Nat × Rs) : ∀ (L : List (Option Nat × Rs)) (i : Nat) (e : EnvH), (∀ j y, L[j]? = some y → S (i + j) = true → Apt x y) → appS S L i (one x.1 x.2 e) = one x.1 x.2 (appS S L i e)
  | [], i, e, _ => rfl
  | (d, R) :: r, i, e, h => by
    have hr := fun e' => appS_one S x r (i + 1) e' (fun j y h1 h2 => h (j + 1) y h1 (by rwa [show i + (j + 1) = i + 1 + j by omega]))
    unfold appS
    cases hS : S i with
    | false => simp only [Bool.false_eq_true, if_false]; exact hr e
    | true =>
      simp only [if_true]
      have ha := h 0 (d, R) rfl (by rw [Nat.add_zero]; exact hS)
      rw [← hr]
      congr 1
      exact (one_comm ha e).symm
theorem appS_congr {S S' : Nat → Bool} : ∀ (L : List (Option Nat × Rs)) (i : Nat) (e : EnvH), (∀ j, j < L.length → S (i + j) = S' (i + j)) → appS S L i e = appS S' L i e
  | [], i, e, _ => rfl
  | (d, R) :: r, i, e, h => by
    unfold appS
    have := h 0 (by simp)
    rw [Nat.add_zero] at this
    rw [this]
    exact appS_congr r (i + 1) _ (fun j hj => by have := h (j + 1) (by simpa using hj); rwa [show i + (j + 1) = i + 1 + j by omega] at this)
theorem appS_insert {S : Nat → Bool} {k : Nat} {x : Option Nat × Rs} : ∀ (L : List (Option Nat × Rs)) (i : Nat) (e : EnvH), i ≤ k → L[k - i]? = some x → S k = false → (∀ j y, L[j]? = some y → k < i + j → S (i + j) = true → Apt x y) →
    appS (fun j => S j || j == k) L i e = one x.1 x.2 (appS S L i e)
  | [], i, e, _, hx, _, _ => by simp at hx
  | (d, R) :: r, i, e, hik, hx, hk, h => by
    by_cases e0 : i = k
    · subst e0
      rw [Nat.sub_self] at hx
      injection hx with hx
      subst hx
      unfold appS
      simp only [hk, Bool.false_or, beq_self_eq_true, if_true, Bool.false_eq_true, if_false]
      rw [appS_congr (S' := S) r (i + 1) _ (fun j _ => by
        have : (i + 1 + j == i) = false := by rw [beq_eq_false_iff_ne]; omega
        rw [this, Bool.or_false])]
      exact appS_one S (d, R) r (i + 1) e (fun j y h1 h2 => h (j + 1) y h1 (by omega) (by rwa [show i + (j + 1) = i + 1 + j by omega]))
    · unfold appS
      have e1 : (i == k) = false := by rw [beq_eq_false_iff_ne]; exact e0
      simp only [e1, Bool.or_false]
      refine appS_insert r (i + 1) _ (by omega) ?_ hk (fun j y h1 h2 h3 => h (j + 1) y h1 (by omega) (by rwa [show i + (j + 1) = i + 1 + j by omega]))
      rw [show k - i = (k - (i + 1)) + 1 by omega] at hx
      exact hx
def maskO (o : Oper) (acc : List Nat) : Nat := o.after.toList.foldl (fun s e => if Region.binds .any e = true then s ||| 2 ^ e.on ||| acc.getD e.on 0 else s) 0
def befM : List Oper → List Nat → List Nat
  | [], acc => acc
  | o :: r, acc => befM r (acc ++ [maskO o acc])
theorem mask_spec (acc : List Nat) (j : Nat) : ∀ (l : List Edge) (s : Nat), (l.foldl (fun s e => if Region.binds .any e = true then s ||| 2 ^ e.on ||| acc.getD e.on 0 else s) s).testBit j = true → s.testBit j = true ∨ ∃ e ∈ l, Region.binds .any e = true ∧ (e.on = j ∨ (acc.getD e.on 0).testBit j = true)
  | [], s, h => .inl h
  | e :: l, s, h => by
    rw [List.foldl_cons] at h
    rcases mask_spec acc j l _ h with h | ⟨e', h1, h2⟩
    · split at h
      · rename_i hb
        rw [Nat.testBit_or, Nat.testBit_or, Bool.or_eq_true, Bool.or_eq_true] at h
        rcases h with (h | h) | h
        · exact .inl h
        · rw [Nat.testBit_two_pow] at h
          exact .inr ⟨e, List.mem_cons_self .., hb, .inl (of_decide_eq_true h)⟩
        · exact .inr ⟨e, List.mem_cons_self .., hb, .inr h⟩
      · exact .inl h
    · exact .inr ⟨e', List.mem_cons_of_mem _ h1, h2⟩
theorem befM_get : ∀ (os : List Oper) (acc : List Nat), (befM os acc).length = acc.length + os.length ∧ (∀ i, i < acc.length → (befM os acc).getD i 0 = acc.getD i 0) ∧
    ∀ i o, os[i]? = some o → (befM os acc).getD (acc.length + i) 0 = maskO o ((befM os acc).take (acc.length + i))
  | [], acc => ⟨rfl, fun _ _ => rfl, fun i o h => by simp at h⟩
  | o :: r, acc => by
    obtain ⟨h1, h2, h3⟩ := befM_get r (acc ++ [maskO o acc])
    rw [List.length_append, List.length_singleton] at h1 h2 h3
    refine ⟨by unfold befM; rw [h1, List.length_cons]; omega, fun i hi => ?_, fun i o' ho => ?_⟩
    · unfold befM
      rw [h2 i (by omega)]
      simp [List.getElem?_append_left hi]
    · cases i with
      | zero =>
        injection ho with ho
        subst ho
        unfold befM
        rw [Nat.add_zero, h2 acc.length (by omega)]
        have e : (befM r (acc ++ [maskO o acc])).take acc.length = acc := by
          apply List.ext_getElem?
          intro i
          rw [List.getElem?_take]
          split
          · rename_i hi
            have := h2 i (by omega)
            simp only [List.getD_eq_getElem?_getD] at this
            rw [List.getElem?_append_left hi] at this
            rw [List.getElem?_eq_getElem (show i < (befM r (acc ++ [maskO o acc])).length by omega), List.getElem?_eq_getElem hi] at this ⊢
            exact congrArg some this
          · rename_i hi
            rw [List.getElem?_eq_none (by omega)]
        rw [e]
        simp
      | succ i =>
        have := h3 i o' ho
        unfold befM
        rw [show acc.length + (i + 1) = acc.length + 1 + i by omega]
        exact this
def Bef (ops : List Oper) (i j : Nat) : Prop := ((befM ops []).getD j 0).testBit i = true
theorem Bef.spec {ops : List Oper} {i j : Nat} {o : Oper} (ho : ops[j]? = some o) (h : Bef ops i j) : ∃ e ∈ o.after, Region.binds .any e = true ∧ (e.on = i ∨ e.on < j ∧ Bef ops i e.on) := by
  obtain ⟨_, _, h3⟩ := befM_get ops []
  have h4 := h3 j o ho
  rw [List.length_nil, Nat.zero_add] at h4
  unfold Bef at h
  rw [h4] at h
  rcases mask_spec _ i o.after.toList 0 h with h | ⟨e, h5, h6, h7⟩
  · simp at h
  · refine ⟨e, by simpa using h5, h6, ?_⟩
    rcases h7 with h7 | h7
    · exact .inl h7
    · right
      simp only [List.getD_eq_getElem?_getD] at h7
      rw [List.getElem?_take] at h7
      split at h7
      · rename_i hlt
        exact ⟨hlt, by unfold Bef; simpa using h7⟩
      · simp at h7
def codeOk (ops : List Oper) : Bool :=
  (ops.zipIdx.all fun (o, j) => o.after.toList.all fun e => !Region.binds .any e || decide (e.on < j)) &&
  (ops.zipIdx.all fun (o, j) => (ops.take j).zipIdx.all fun (o', i) => ((befM ops []).getD j 0).testBit i || Oper.apart ops.toArray o' o)
def disj (a b : List Nat) : Bool := a.all fun x => !b.contains x
def skApart (a b : Sk) : Bool := disj a.1 b.1 && (disj a.1 b.2 && disj a.2 b.1)
def skOk (ops : List Oper) (sks : List Sk) : Bool := sks.zipIdx.all fun (s, j) => (sks.take j).zipIdx.all fun (s', i) => ((befM ops []).getD j 0).testBit i || skApart s' s
theorem disj_spec {a b : List Nat} (h : disj a b = true) : ∀ t, t ∈ a → t ∉ b := fun t ht hb => by
  have := List.all_eq_true.1 h t ht
  simp only [Bool.not_eq_true'] at this
  rw [List.contains_iff_mem.2 hb] at this
  cases this
theorem codeOk_edge {ops : List Oper} (h : codeOk ops = true) {j : Nat} {o : Oper} (ho : ops[j]? = some o) : ∀ e ∈ o.after, Region.binds .any e = true → e.on < j := fun e he hb => by
  unfold codeOk at h
  rw [Bool.and_eq_true] at h
  have h1 := List.all_eq_true.1 h.1 (o, j) (List.mem_zipIdx_iff_getElem?.2 ho)
  have h2 := List.all_eq_true.1 h1 e (by simpa using he)
  rw [hb] at h2
  simpa using h2
theorem codeOk_apart {ops : List Oper} (h : codeOk ops = true) {i j : Nat} {oi oj : Oper} (hij : i < j) (hi : ops[i]? = some oi) (hj : ops[j]? = some oj) : Bef ops i j ∨ Oper.apart ops.toArray oi oj = true := by
  unfold codeOk at h
  rw [Bool.and_eq_true] at h
  have h1 := List.all_eq_true.1 h.2 (oj, j) (List.mem_zipIdx_iff_getElem?.2 hj)
  have h2 := List.all_eq_true.1 h1 (oi, i) (List.mem_zipIdx_iff_getElem?.2 (by rw [List.getElem?_take, if_pos hij]; exact hi))
  simp only [Bool.or_eq_true] at h2
  exact h2
theorem skOk_apart {ops : List Oper} {sks : List Sk} (h : skOk ops sks = true) {i j : Nat} {si sj : Sk} (hij : i < j) (hi : sks[i]? = some si) (hj : sks[j]? = some sj) : Bef ops i j ∨ skApart si sj = true := by
  have h1 := List.all_eq_true.1 h (sj, j) (List.mem_zipIdx_iff_getElem?.2 hj)
  have h2 := List.all_eq_true.1 h1 (si, i) (List.mem_zipIdx_iff_getElem?.2 (by rw [List.getElem?_take, if_pos hij]; exact hi))
  simp only [Bool.or_eq_true] at h2
  exact h2
end Go.Proofs.YtcbpghpfdjfddaaE
-- Declarations of the text that this claim uses (slim.py, a program of this session).
namespace Go.Proofs.YtcbpghpfdjfddaaE
open Go Go.RowKit
set_option linter.unusedVariables false
set_option linter.unusedSimpArgs false
def evE (env : Nat → AV) : Operand → AV
  | .tmp t => env t
  | .const v => cst v
  | .func f => .fn f []
  | .global _ => .ud
theorem ev_evE (σ : St) : σ.ev = evE σ.get := funext fun x => by cases x <;> rfl
theorem app_get (σ : St) (d : Option Nat) (R : Rs) : (σ.app d R).get = setD σ.get d R.r := funext fun s => by
  cases d with
  | none => simp [St.app, St.get, put, setD]
  | some d =>
    simp only [St.app, St.get, put, setD, lk, lk_rm, Option.some.injEq]
    split <;> rfl
theorem app_hp (σ : St) (d : Option Nat) (R : Rs) : (σ.app d R).hp = upds σ.hp R.up := funext fun t => lk_putAll R.up σ.H t
def nn : List Rs → Nat → Nat → Nat
  | [], N, _ => N
  | _, N, 0 => N
  | R :: r, N, i + 1 => nn r (N + R.k) i
theorem nn_ge : ∀ (l : List Rs) (N i : Nat), N ≤ nn l N i
  | [], N, i => by unfold nn; exact Nat.le_refl _
  | R :: r, N, 0 => by unfold nn; exact Nat.le_refl _
  | R :: r, N, i + 1 => by unfold nn; exact Nat.le_trans (Nat.le_add_right _ _) (nn_ge r _ i)
theorem nn_step : ∀ (l : List Rs) (N i j : Nat) (R : Rs), l[i]? = some R → i < j → nn l N i + R.k ≤ nn l N j
  | [], N, i, j, R, h, _ => by simp at h
  | R' :: r, N, 0, j, R, h, hij => by
    injection h with h
    subst h
    obtain ⟨j, rfl⟩ : ∃ k, j = k + 1 := ⟨j - 1, by omega⟩
    show nn (R' :: r) N 0 + R'.k ≤ nn r (N + R'.k) j
    exact nn_ge r _ j
  | R' :: r, N, i + 1, j, R, h, hij => by
    obtain ⟨j, rfl⟩ : ∃ k, j = k + 1 := ⟨j - 1, by omega⟩
    exact nn_step r (N + R'.k) i j R h (by omega)
section
variable {P : Program} {Γ : TEnv} {cx : Cx} {n : Nat} {ds : List (Option Nat)} {chs : List (Nat × Ch)}
def lz (os : List Oper) (Rs : List Rs) : List (Option Nat × Go.Proofs.YtcbpghpfdjfddaaE.Rs) := (os.map (·.dst)).zip Rs
theorem appS_cons (S : Nat → Bool) (d : Option Nat) (R : Rs) (r : List (Option Nat × Rs)) (i : Nat) (e : EnvH) : appS S ((d, R) :: r) i e = appS S r (i + 1) (if S i = true then one d R e else e) := rfl
theorem appS_none (S : Nat → Bool) : ∀ (L : List (Option Nat × Rs)) (i : Nat) (e : EnvH), (∀ j, i ≤ j → S j = false) → appS S L i e = e
  | [], i, e, _ => rfl
  | (d, R) :: r, i, e, h => by
    unfold appS
    rw [h i (Nat.le_refl _)]
    exact appS_none S r (i + 1) e (fun j hj => h j (by omega))
theorem runs_len : ∀ {os : List Oper} {i : Nat} {σ σ' : St} {Rs : List Rs}, Runs P Γ n ds chs os i σ Rs σ' → Rs.length = os.length
  | [], i, σ, σ', [], h => rfl
  | o :: os, i, σ, σ', R :: Rs, h => by rw [List.length_cons, List.length_cons, runs_len h.2]
  | [], _, _, _, _ :: _, h => h.elim
  | _ :: _, _, _, _, [], h => h.elim
theorem runs_at : ∀ {os : List Oper} {i0 : Nat} {σ σ' : St} {Rs : List Rs}, Runs P Γ n ds chs os i0 σ Rs σ' → ∀ (i : Nat) (o : Oper) (R : Go.Proofs.YtcbpghpfdjfddaaE.Rs), os[i]? = some o → Rs[i]? = some R →
    ∃ σi : St, Did P Γ n ds chs o (i0 + i) σi R ∧ (σi.get, σi.hp) = appS (fun j => decide (j < i0 + i)) (lz os Rs) i0 (σ.get, σ.hp) ∧ σi.N = nn Rs σ.N i
  | [], i0, σ, σ', Rs, h, i, o, R, ho, hR => by simp at ho
  | o :: os, i0, σ, σ', [], h, i, o', R', ho, hR => h.elim
  | o :: os, i0, σ, σ', R :: Rs, h, 0, o', R', ho, hR => by
    injection ho with ho
    injection hR with hR
    subst ho
    subst hR
    refine ⟨σ, h.1, ?_, rfl⟩
    rw [appS_none _ _ _ _ (fun j hj => by simp; omega)]
  | o :: os, i0, σ, σ', R :: Rs, h, i + 1, o', R', ho, hR => by
    obtain ⟨σi, h1, h2, h3⟩ := runs_at h.2 i o' R' ho hR
    refine ⟨σi, by rw [show i0 + (i + 1) = i0 + 1 + i by omega]; exact h1, ?_, h3⟩
    rw [h2, app_get, app_hp, show i0 + 1 + i = i0 + (i + 1) by omega]
    show _ = appS _ ((o.dst, R) :: lz os Rs) i0 _
    rw [appS_cons, if_pos (decide_eq_true (show i0 < i0 + (i + 1) by omega))]
    rfl
theorem runs_end : ∀ {os : List Oper} {i0 : Nat} {σ σ' : St} {Rs : List Rs}, Runs P Γ n ds chs os i0 σ Rs σ' → (σ'.get, σ'.hp) = appS (fun _ => true) (lz os Rs) i0 (σ.get, σ.hp) ∧ σ'.N = nn Rs σ.N Rs.length
  | [], i0, σ, σ', [], h => by
    have : σ' = σ := h
    subst this
    exact ⟨rfl, rfl⟩
  | o :: os, i0, σ, σ', R :: Rs, h => by
    obtain ⟨h1, h2⟩ := runs_end h.2
    refine ⟨?_, h2⟩
    rw [h1, app_get, app_hp]
    show _ = appS _ ((o.dst, R) :: lz os Rs) i0 _
    rfl
  | [], _, _, _, _ :: _, h => h.elim
  | _ :: _, _, _, _, [], h => h.elim
theorem lz_get {os : List Oper} {Rs : List Rs} {j : Nat} {d : Option Nat} {R : Go.Proofs.YtcbpghpfdjfddaaE.Rs} (h : (lz os Rs)[j]? = some (d, R)) : ∃ o, os[j]? = some o ∧ o.dst = d ∧ Rs[j]? = some R := by
  unfold lz at h
  rw [List.getElem?_zip_eq_some] at h
  obtain ⟨h1, h2⟩ := h
  rw [List.getElem?_map] at h1
  obtain ⟨o, ho, hd⟩ := Option.map_eq_some_iff.1 h1
  exact ⟨o, ho, hd, h2⟩
theorem lz_mk {os : List Oper} {Rs : List Rs} {j : Nat} {o : Oper} {R : Go.Proofs.YtcbpghpfdjfddaaE.Rs} (ho : os[j]? = some o) (hR : Rs[j]? = some R) : (lz os Rs)[j]? = some (o.dst, R) := by
  unfold lz
  rw [List.getElem?_zip_eq_some]
  exact ⟨by rw [List.getElem?_map, ho]; rfl, hR⟩
theorem lz_len {os : List Oper} {Rs : List Rs} (h : Rs.length = os.length) : (lz os Rs).length = os.length := by
  unfold lz
  simp [h]
theorem put_rel {G G' : Gh} {I I' : Addr → Prop} {w w' : World} {env : Nat → AV} {a : Act} (hn : a.tmps.size = n) (h : ∀ s, VR G I w (env s) (a.tmps.getD s undef)) (hm : Mono G I w G' I' w') {d : Option Nat} (hdn : dOk n d) {r : AV} {v : Value} (hv : VR G' I' w' r v) :
    (a.put d v).tmps.size = n ∧ (a.put d v).defers = a.defers ∧ ∀ s, VR G' I' w' (setD env d r s) ((a.put d v).tmps.getD s undef) := by
  refine ⟨by cases d <;> simp [Act.put, hn], by cases d <;> rfl, fun s => ?_⟩
  cases d with
  | none => simpa [setD, Act.put] using (h s).mono hm
  | some d =>
    simp only [setD, Option.some.injEq]
    show VR G' I' w' _ ((a.tmps.setIfInBounds d v).getD s undef)
    by_cases e : d = s
    · subst e
      rw [if_pos rfl]
      have hd' : d < a.tmps.size := by rw [hn]; exact hdn
      have : (a.tmps.setIfInBounds d v).getD d undef = v := by simp [hd']
      rw [this]
      exact hv
    · rw [if_neg e]
      have : (a.tmps.setIfInBounds d v).getD s undef = a.tmps.getD s undef := by
        simp only [Array.getD_eq_getD_getElem?]
        rw [Array.getElem?_setIfInBounds_ne e]
      rw [this]
      exact (h s).mono hm
theorem GS.drew {G : Gh} {I : Addr → Prop} {w w' : World} {H : Nat → HC} {F : Nat → Prop} (h : GS P cx G I w H F) (h1 : w'.heap = w.heap) (h2 : w'.os = w.os) (h3 : w'.tape = w.tape) (h4 : w'.output = w.output) : GS P cx G I w' H F ∧ Mono G I w G I w' := by
  have ho : Only (fun _ => False) w w' := ⟨h2, h3, h4, by rw [h1]; exact Nat.le_refl _, fun k _ => by rw [h1]⟩
  have hm : Mono G I w G I w' := ⟨fun _ _ e => e, fun a ha => ⟨ha, ho.cell (fun e => e)⟩⟩
  refine ⟨⟨⟨fun t => (h.h.cr t).mono hm (fun b _ => by rw [h1]), h.h.sep, fun a ha => ?_, h.h.dom⟩, ⟨h2.trans h.c.os, h3.trans h.c.tape, h4.trans h.c.output, by rw [h1]; exact h.c.size, fun k hk => by rw [h1]; exact h.c.frame k hk, h.c.up, h.c.live, h.c.mono.trans hm, h.c.inew⟩⟩, hm⟩
  obtain ⟨a1, a2, a3⟩ := h.h.imm a ha
  exact ⟨a1, by rw [(hm.2 a ha).2]; exact a2, a3⟩
def FS (Rs : List Rs) (N : Nat) (S : Nat → Bool) (t : Nat) : Prop := nn Rs N Rs.length ≤ t ∨ ∃ i R, Rs[i]? = some R ∧ S i = false ∧ nn Rs N i ≤ t ∧ t < nn Rs N i + R.k
def sOf (listed : Array Bool) : Nat → Bool := fun i => listed.getD i false
structure InvD (P : Program) (cx : Cx) (n : Nat) (L : List (Option Nat × Rs)) (Rs : List Rs) (σ0 : St) (S : Nat → Bool) (a : Act) (w : World) : Prop where
  ex : ∃ G I, GS P cx G I w (appS S L 0 (σ0.get, σ0.hp)).2 (FS Rs σ0.N S) ∧ ∀ s, VR G I w ((appS S L 0 (σ0.get, σ0.hp)).1 s) (a.tmps.getD s undef)
  d : a.defers = []
  n : a.tmps.size = n
theorem countP_lt {α : Type} {p q : α → Bool} : ∀ (l : List α), (∀ x ∈ l, q x = true → p x = true) → (∃ x ∈ l, p x = true ∧ q x = false) → l.countP q < l.countP p
  | [], _, h => by obtain ⟨x, hx, _⟩ := h; cases hx
  | y :: l, hqp, h => by
    have hle : l.countP q ≤ l.countP p := List.countP_mono_left (fun x hx hq => hqp x (List.mem_cons_of_mem _ hx) hq)
    obtain ⟨x, hx, h1, h2⟩ := h
    rw [List.countP_cons, List.countP_cons]
    rcases List.mem_cons.1 hx with rfl | hx
    · rw [h1, h2]
      simp
      omega
    · have := countP_lt l (fun x hx hq => hqp x (List.mem_cons_of_mem _ hx) hq) ⟨x, hx, h1, h2⟩
      have hy := hqp y (List.mem_cons_self ..)
      cases hq : q y <;> cases hp : p y <;> simp_all <;> omega
def unl (m : Nat) (listed : Array Bool) : Nat := (List.range m).countP fun i => !listed.getD i false
theorem unl_set {m : Nat} {listed : Array Bool} {i : Nat} (hs : listed.size = m) (hi : listed.getD i true = false) : unl m (listed.setIfInBounds i true) < unl m listed := by
  have him : i < m := by
    rcases Nat.lt_or_ge i listed.size with h | h
    · omega
    · simp [h] at hi
  refine countP_lt _ (fun x hx hq => ?_) ⟨i, List.mem_range.2 him, ?_, ?_⟩
  · by_cases e : i = x
    · subst e
      simp [show i < listed.size by omega] at hq
    · rwa [getD_set_ne false e] at hq
  · simp only [Bool.not_eq_true']
    simp [show i < listed.size by omega] at hi ⊢
    exact hi
  · simp [show i < listed.size by omega]
theorem draw_any (hΓ : EOk P Γ) {ops : Array Oper} (hds : ds = ops.toList.map (·.dst)) {σ0 σm : St} {Rs : List Rs} (hrun : Runs P Γ n ds chs ops.toList 0 σ0 Rs σm) (hcode : codeOk ops.toList = true) (hsk : skOk ops.toList (Rs.map skOf) = true) {Q : Exit → Act → World → Prop} (hQ : ∀ a w, SR P cx n σm a w → Q .normal a w) :
    ∀ (fuel : Nat) (listed : Array Bool) (a : Act) (w : World), listed.size = ops.size → unl ops.size listed ≤ fuel → (∀ j o, ops[j]? = some o → listed.getD j false = true → ∀ e ∈ o.after, Region.binds .any e = true → listed.getD e.on false = true) →
      InvD P cx n (lz ops.toList Rs) Rs σ0 (sOf listed) a w → wpAny P .any ops Q fuel listed a w := by
  have hlen := runs_len hrun
  have hL := lz_len hlen
  have fin : ∀ (listed : Array Bool) (a : Act) (w : World), listed.size = ops.size → (∀ i, i < ops.size → listed.getD i false = true) → InvD P cx n (lz ops.toList Rs) Rs σ0 (sOf listed) a w → Q .normal a w := by
    intro listed a w hs hall hinv
    obtain ⟨⟨G, I, hg, hv⟩, hd, hn⟩ := hinv
    obtain ⟨e1, e2⟩ := runs_end hrun
    have e3 : appS (sOf listed) (lz ops.toList Rs) 0 (σ0.get, σ0.hp) = (σm.get, σm.hp) := by
      rw [e1]
      refine appS_congr _ _ _ (fun j hj => ?_)
      rw [hL] at hj
      rw [Nat.zero_add]
      exact hall j (by rw [Array.length_toList] at hj; exact hj)
    rw [e3] at hg hv
    exact hQ a w ⟨G, I, hg.weak (fun t ht => .inl (by rw [← e2]; exact ht)), hd, hn, hv⟩
  intro fuel
  induction fuel with
  | zero =>
    intro listed a w hs hu hcl hinv
    have hall : ∀ i, i < ops.size → listed.getD i false = true := fun i hi => by
      have h0 : unl ops.size listed = 0 := by omega
      have := (List.countP_eq_zero.1 h0) i (List.mem_range.2 hi)
      simpa using this
    refine ⟨?_, fin listed a w hs hall hinv⟩
    rw [List.eq_nil_iff_forall_not_mem]
    intro i hi
    obtain ⟨h1, o, ho, _⟩ := mem_ready.1 hi
    have hi' : i < ops.size := (Array.getElem?_eq_some_iff.1 ho).1
    have := hall i hi'
    simp [show i < listed.size by omega] at h1 this
    rw [h1] at this
    cases this
  | succ fuel ih =>
    intro listed a w hs hu hcl hinv
    refine ⟨fun hr => fin listed a w hs (fun i hi => ?_) hinv, fun i hi => ?_⟩
    · -- the least that has not come up would be ready
      induction i using Nat.strongRecOn with
      | _ i ihi =>
        cases hc : listed.getD i false with
        | true => rfl
        | false =>
          exfalso
          have ho : ops[i]? = some ops[i] := Array.getElem?_eq_getElem hi
          have ho' : ops.toList[i]? = some ops[i] := by simp
          have : i ∈ Region.ready .any ops listed := mem_ready.2 ⟨by simp [show i < listed.size by omega] at hc ⊢; exact hc, ops[i], ho, fun e he hb => by
            have hlt := codeOk_edge hcode ho' e he hb
            exact ihi e.on hlt (by omega)⟩
          rw [hr] at this
          cases this
    · obtain ⟨hni, o, ho, hready⟩ := mem_ready.1 hi
      have him : i < ops.size := (Array.getElem?_eq_some_iff.1 ho).1
      have ho' : ops.toList[i]? = some o := by simpa using ho
      have hiR : i < Rs.length := by rw [hlen, Array.length_toList]; exact him
      have hRi : Rs[i]? = some Rs[i] := List.getElem?_eq_getElem hiR
      generalize hRe : Rs[i] = R at hRi
      obtain ⟨σi, hdid, hσi, hNi⟩ := runs_at hrun i o R ho' hRi
      rw [Nat.zero_add] at hdid hσi
      have hSi : sOf listed i = false := by
        unfold sOf
        simp [show i < listed.size by omega] at hni ⊢
        exact hni
      -- what i waits for has come up
      have hbef : ∀ (j i' : Nat) (oj : Oper), ops.toList[j]? = some oj → (∀ e ∈ oj.after, Region.binds .any e = true → listed.getD e.on false = true) → Bef ops.toList i' j → listed.getD i' false = true := by
        intro j
        induction j using Nat.strongRecOn with
        | _ j ihj =>
          intro i' oj hoj hall hb
          obtain ⟨e, he, hbd, h⟩ := Bef.spec hoj hb
          have hle := hall e he hbd
          rcases h with h | ⟨hlt, h⟩
          · rw [← h]; exact hle
          · have hes : e.on < ops.size := by
              rcases Nat.lt_or_ge e.on listed.size with h' | h'
              · omega
              · simp [h'] at hle
            have hoe : ops[e.on]? = some ops[e.on] := Array.getElem?_eq_getElem hes
            exact ihj e.on hlt i' _ (Array.getElem?_toList.trans hoe) (hcl e.on _ hoe hle) h
      have hbi : ∀ j, Bef ops.toList j i → sOf listed j = true := fun j hb => hbef i j o ho' hready hb
      have hbj : ∀ j oj, ops.toList[j]? = some oj → Bef ops.toList i j → sOf listed j = false := fun j oj hoj hb => by
        cases hc : sOf listed j with
        | false => rfl
        | true =>
          have := hbef j i oj hoj (hcl j oj (by simpa using hoj) hc) hb
          rw [show listed.getD i false = sOf listed i from rfl, hSi] at this
          cases this
      have htoa : ops.toList.toArray = ops := by simp
      -- two operations that are not in order have nothing in common
      have hapt : ∀ j oj Rj, ops.toList[j]? = some oj → Rs[j]? = some Rj → i < j → Bef ops.toList i j ∨ (Oper.apart ops o oj = true) := fun j oj Rj hoj hRj hij => by
        have := codeOk_apart hcode hij ho' hoj
        rwa [htoa] at this
      have hat : ∀ s, s ∈ o.looksAt ops → (appS (sOf listed) (lz ops.toList Rs) 0 (σ0.get, σ0.hp)).1 s = σi.get s := by
        intro s hs'
        rw [show σi.get = (σi.get, σi.hp).1 from rfl, hσi]
        refine appS_env _ _ s _ 0 _ _ rfl (fun j d R' hj hd => ?_)
        rw [Nat.zero_add]
        obtain ⟨oj, hoj, hdj, hRj⟩ := lz_get hj
        rcases Nat.lt_trichotomy j i with h | h | h
        · rw [decide_eq_true h]
          rcases codeOk_apart hcode h hoj ho' with h1 | h1
          · exact hbi j h1
          · rw [htoa] at h1
            exact ((Oper.apart_spec h1).1 s (by rw [hdj, hd]) hs').elim
        · subst h; rw [hSi]; simp
        · rw [decide_eq_false (by omega)]
          rcases hapt j oj R' hoj hRj h with h1 | h1
          · exact hbj j oj hoj h1
          · exact ((Oper.apart_spec h1).2.2 s (by rw [hdj, hd]) hs').elim
      have hsks : ∀ j Rj, Rs[j]? = some Rj → (Rs.map skOf)[j]? = some (skOf Rj) := fun j Rj h => by rw [List.getElem?_map, h]; rfl
      have hah : ∀ t, t ∈ R.rd → (appS (sOf listed) (lz ops.toList Rs) 0 (σ0.get, σ0.hp)).2 t = σi.hp t := by
        intro t ht
        rw [show σi.hp = (σi.get, σi.hp).2 from rfl, hσi]
        refine appS_hp _ _ t _ 0 _ _ rfl (fun j d R' hj hd => ?_)
        rw [Nat.zero_add]
        obtain ⟨oj, hoj, hdj, hRj⟩ := lz_get hj
        rcases Nat.lt_trichotomy j i with h | h | h
        · rw [decide_eq_true h]
          rcases skOk_apart hsk h (hsks j R' hRj) (hsks i R hRi) with h1 | h1
          · exact hbi j h1
          · unfold skApart at h1
            simp only [Bool.and_eq_true] at h1
            exact (disj_spec h1.2.1 t hd ht).elim
        · subst h; rw [hSi]; simp
        · rw [decide_eq_false (by omega)]
          rcases skOk_apart hsk h (hsks i R hRi) (hsks j R' hRj) with h1 | h1
          · exact hbj j oj hoj h1
          · unfold skApart at h1
            simp only [Bool.and_eq_true] at h1
            exact (disj_spec h1.2.2 t ht hd).elim
      have hins : appS (sOf (listed.setIfInBounds i true)) (lz ops.toList Rs) 0 (σ0.get, σ0.hp) = one o.dst R (appS (sOf listed) (lz ops.toList Rs) 0 (σ0.get, σ0.hp)) := by
        have hS' : sOf (listed.setIfInBounds i true) = fun j => sOf listed j || j == i := by
          funext j
          unfold sOf
          by_cases e : i = j
          · subst e
            simp [show i < listed.size by omega]
          · rw [getD_set_ne false e, beq_eq_false_iff_ne.2 (fun h => e h.symm), Bool.or_false]
        rw [hS']
        refine appS_insert (x := (o.dst, R)) _ 0 _ (Nat.zero_le _) (by rw [Nat.sub_zero]; exact lz_mk ho' hRi) hSi (fun j y hj hij hSj => ?_)
        obtain ⟨d, Rj⟩ := y
        obtain ⟨oj, hoj, hdj, hRj⟩ := lz_get hj
        rw [Nat.zero_add] at hij hSj
        have hnb : ¬ Bef ops.toList i j := fun hb => by
          rw [hbj j oj hoj hb] at hSj
          cases hSj
        refine ⟨fun s hs1 hs2 => ?_, fun t ht1 ht2 => ?_⟩
        · rcases hapt j oj Rj hoj hRj hij with h1 | h1
          · exact hnb h1
          · exact (Oper.apart_spec h1).2.1 s hs1 (by rw [hdj]; exact hs2)
        · rcases skOk_apart hsk hij (hsks i R hRi) (hsks j Rj hRj) with h1 | h1
          · exact hnb h1
          · unfold skApart at h1
            simp only [Bool.and_eq_true] at h1
            exact disj_spec h1.1 t ht1 ht2
      have hFS : ∀ t, FS Rs σ0.N (sOf (listed.setIfInBounds i true)) t → Fr (FS Rs σ0.N (sOf listed)) (nn Rs σ0.N i) R.k t := by
        intro t ht
        rcases ht with ht | ⟨j, Rj, hRj, hSj, h1, h2⟩
        · refine ⟨.inl ht, fun e => ?_⟩
          have := nn_step Rs σ0.N i Rs.length R hRi hiR
          omega
        · have hij : i ≠ j := fun e => by
            subst e
            unfold sOf at hSj
            simp [show i < listed.size by omega] at hSj
          refine ⟨.inr ⟨j, Rj, hRj, ?_, h1, h2⟩, fun e => ?_⟩
          · unfold sOf at hSj ⊢
            rwa [getD_set_ne false hij] at hSj
          · rcases Nat.lt_or_gt_of_ne hij with h | h
            · have := nn_step Rs σ0.N i j R hRi h
              omega
            · have := nn_step Rs σ0.N j i Rj hRj h
              omega
      have hcl' : ∀ j o', ops[j]? = some o' → (listed.setIfInBounds i true).getD j false = true → ∀ e ∈ o'.after, Region.binds .any e = true → (listed.setIfInBounds i true).getD e.on false = true := by
        intro j oj hoj hlj e he hb
        by_cases hij : i = j
        · subst hij
          have : oj = o := Option.some.inj (hoj.symm.trans ho)
          subst this
          exact getD_set_true (hready e he hb)
        · rw [getD_set_ne false hij] at hlj
          exact getD_set_true (hcl j oj hoj hlj e he hb)
      have hu' : unl ops.size (listed.setIfInBounds i true) ≤ fuel := by
        have := unl_set hs hni
        omega
      obtain ⟨⟨G, I, hg, hv⟩, hd, hn⟩ := hinv
      unfold wpOp
      rw [ho]
      simp only []
      have hguard : ∀ j want b, o.guard = some (j, want) → gB σi ds j = some b → yielded ops a.tmps j = b := by
        intro j want b hgd hb
        unfold gB at hb
        split at hb
        · rename_i d hdj
          rw [hds, List.getElem?_map] at hdj
          obtain ⟨oj, hoj, hdst⟩ := Option.map_eq_some_iff.1 hdj
          have hoj' : ops[j]? = some oj := by simpa using hoj
          have hlook : d ∈ o.looksAt ops := by
            unfold Oper.looksAt
            rw [List.mem_append]
            right
            rw [hgd]
            simp [hoj', hdst]
          have hvd := hv d
          rw [hat d hlook] at hvd
          exact yield_any hoj' hdst hvd hb
        · cases hb
      rcases hdid with ⟨hdn, ⟨hev, hside, hgd⟩ | ⟨hskip, j, want, b, hgd, hb, hne⟩⟩
      · have hw : Region.wanted o (yielded ops a.tmps) = true := by
          rcases hgd with hgd | ⟨j, want, hgd, hb⟩
          · simp [Region.wanted, hgd]
          · simp [Region.wanted, hgd, hguard j want (some want) hgd hb]
        rw [if_pos hw]
        left
        have hρ : ∀ x ∈ o.op.operands.toList, σi.ev x = evE (appS (sOf listed) (lz ops.toList Rs) 0 (σ0.get, σ0.hp)).1 x := by
          intro x hx
          rw [ev_evE]
          cases x with
          | tmp t =>
            refine (hat t ?_).symm
            unfold Oper.looksAt
            rw [List.mem_append]
            left
            rw [List.mem_filterMap]
            exact ⟨.tmp t, hx, rfl⟩
          | _ => rfl
        have hev' := evO_agree hρ hev (h' := (appS (sOf listed) (lz ops.toList Rs) 0 (σ0.get, σ0.hp)).2) (fun t ht => (hah t ht).symm)
        rw [hNi] at hev'
        have hop : ∀ x, VR G I w (evE (appS (sOf listed) (lz ops.toList Rs) 0 (σ0.get, σ0.hp)).1 x) (a.eval x) := by
          intro x
          cases x with
          | tmp t => exact hv t
          | const v => exact cst_rel G I w v
          | global g => exact .ud _
          | func f => exact .fn f [] #[] rfl (fun i x hx => by simp at hx)
        have hdoes := evO_sound (ev := a.eval) hΓ hg hop hev' hside (fun t h1 h2 => .inr ⟨i, R, hRi, hSi, h1, h2⟩)
        refine hdoes.wp fun v w' ⟨G', I', hg', hm, hr⟩ => ?_
        obtain ⟨p1, p2, p3⟩ := put_rel hn hv hm hdn hr
        refine ih (listed.setIfInBounds i true) _ _ (by simpa using hs) hu' hcl' ⟨⟨G', I', ?_, ?_⟩, by rw [p2]; exact hd, p1⟩
        · rw [hins]; exact hg'.weak hFS
        · rw [hins]; exact p3
      · have hw : Region.wanted o (yielded ops a.tmps) = false := by
          have hy := hguard j want b hgd hb
          have : (b == some want) = false := by simpa using hne
          simp [Region.wanted, hgd, hy, this]
        rw [if_neg (by rw [hw]; simp)]
        subst hskip
        obtain ⟨p1, p2, p3⟩ := put_rel (G' := G) (I' := I) (w' := w) hn hv (Mono.refl _ _ _) hdn (VR.skipped G I w)
        refine ih (listed.setIfInBounds i true) _ _ (by simpa using hs) hu' hcl' ⟨⟨G, I, ?_, ?_⟩, by rw [p2]; exact hd, p1⟩
        · rw [hins]; exact hg.weak (fun t ht => (hFS t ht).1)
        · rw [hins]; exact p3
theorem awp_draw {k0 : Nat} {Q : Exit → St → Prop} {σ : St} (hm : P.follows .mixedOrders = true) (hΓ : EOk P Γ) {id : Nat} {ops : Array Oper} (ds : List (Option Nat)) (chs : List (Nat × Ch)) (hds : ops.toList.map (·.dst) = ds) (hcode : codeOk ops.toList = true)
    (h : ∀ K : St → List Sk → Prop, (∀ σ' sks, skOk ops.toList sks = true → Q .normal σ' → K σ' sks) → evL P Γ n ds chs K ops.toList 0 σ []) : AWp P k0 n (.region id ops true) Q σ := by
  intro cx h0 a w hs
  have := h (fun σ' sks => skOk ops.toList sks = true ∧ Q .normal σ') (fun σ' sks h1 h2 => ⟨h1, h2⟩)
  obtain ⟨Rs, σ', hrun, hsk, hq⟩ := evL_runs _ _ _ _ this
  rw [List.nil_append] at hsk
  refine wp_region_any hm ?_
  obtain ⟨G, I, hg, hd, hn, hv⟩ := hs
  obtain ⟨hg', hmo⟩ := hg.drew (w' := { w with drawn := w.drawn + 1 }) rfl rfl rfl rfl
  refine draw_any (cx := cx) hΓ hds.symm hrun hcode hsk (fun a w hs => ⟨σ', hq, hs⟩) ops.size _ a _ (by simp) ?_ (fun j o ho hl => ?_) ⟨⟨G, I, ?_, ?_⟩, hd, hn⟩
  · exact Nat.le_trans (List.countP_le_length ..) (by simp)
  · rw [Array.getD_eq_getD_getElem?, Array.getElem?_replicate] at hl
    split at hl <;> cases hl
  · have e : appS (sOf (Array.replicate ops.size false)) (lz ops.toList Rs) 0 (σ.get, σ.hp) = (σ.get, σ.hp) := appS_none _ _ _ _ (fun j _ => by
      unfold sOf
      rw [Array.getD_eq_getD_getElem?, Array.getElem?_replicate]
      split <;> rfl)
    rw [e]
    refine hg'.weak (fun t ht => ?_)
    rcases ht with ht | ⟨i, R, _, _, h1, _⟩
    · exact Nat.le_trans (nn_ge _ _ _) ht
    · exact Nat.le_trans (nn_ge _ _ _) h1
  · have e : appS (sOf (Array.replicate ops.size false)) (lz ops.toList Rs) 0 (σ.get, σ.hp) = (σ.get, σ.hp) := appS_none _ _ _ _ (fun j _ => by
      unfold sOf
      rw [Array.getD_eq_getD_getElem?, Array.getElem?_replicate]
      split <;> rfl)
    rw [e]
    exact fun s => (hv s).mono hmo
end
end Go.Proofs.YtcbpghpfdjfddaaE
-- Declarations of the text that this claim uses (slim.py, a program of this session).
namespace Go.Proofs.YtcbpghpfdjfddaaE
open Go Go.RowKit
set_option linter.unusedVariables false
set_option linter.unusedSimpArgs false
def St.keep (ks : List Nat) (σ : St) : St := ⟨ks.map fun s => (s, σ.get s), σ.H, σ.N⟩
def envOk (σ : St) (f : Nat → Nat) (k : Nat) : List (Nat × AV) → Prop
  | [] => True
  | (s, x) :: r => σ.get s = x.ren f ∧ x.lt k = true ∧ envOk σ f k r
def hpOk (σ : St) (f : Nat → Nat) (k : Nat) : List Nat → List HC → Prop
  | [], [] => True
  | t :: ids, c :: Hs => σ.hp t = c.ren f ∧ c.lt k = true ∧ hpOk σ f k ids Hs
  | _, _ => False
def Seen (k0 : Nat) (σ : St) (ids : List Nat) (Hs : List HC) (env : List (Nat × AV)) : Prop :=
  hpOk σ (idr ids) Hs.length ids Hs ∧ envOk σ (idr ids) Hs.length env
def idsOk (k0 : Nat) (ids : List Nat) : Bool := decide ids.Nodup && decide (ids.take k0 = List.range k0)
theorem envOk_mem {σ : St} {f : Nat → Nat} {k : Nat} : ∀ {env : List (Nat × AV)}, envOk σ f k env → ∀ p ∈ env, σ.get p.1 = p.2.ren f ∧ p.2.lt k = true
  | [], _, p, hp => by cases hp
  | (s, x) :: r, h, p, hp => by
    rcases List.mem_cons.1 hp with rfl | hp
    · exact ⟨h.1, h.2.1⟩
    · exact envOk_mem h.2.2 p hp
theorem hpOk_of {σ : St} {f : Nat → Nat} {k : Nat} : ∀ {ids : List Nat} {Hs : List HC}, hpOk σ f k ids Hs → ids.length = Hs.length ∧ ids.map σ.hp = Hs.map (HC.ren f) ∧ Hs.all (HC.lt k) = true
  | [], [], _ => ⟨rfl, rfl, rfl⟩
  | t :: ids, c :: Hs, h => by
    obtain ⟨h1, h2, h3⟩ := hpOk_of h.2.2
    exact ⟨by simp [h1], by simp [h.1, h2], by simp [h.2.1, h3]⟩
  | [], _ :: _, h => h.elim
  | _ :: _, [], h => h.elim
theorem Seen.gc {k0 : Nat} {σ : St} {ids : List Nat} {Hs : List HC} {env : List (Nat × AV)} (h : Seen k0 σ ids Hs env) (hi : idsOk k0 ids = true) : GcOk k0 σ ids Hs env := by
  obtain ⟨h1, h2⟩ := h
  obtain ⟨g1, g2, g3⟩ := hpOk_of h1
  unfold idsOk at hi
  rw [Bool.and_eq_true] at hi
  refine ⟨g1, of_decide_eq_true hi.1, fun i hk => ?_, g2, g3, envOk_mem h2⟩
  have h3 := of_decide_eq_true hi.2
  have := congrArg (fun l => l[i]?) h3
  simp only [List.getElem?_take, if_pos hk, List.getElem?_range hk] at this
  exact this
theorem evL_mono {P : Program} {Γ : TEnv} {n : Nat} {ds : List (Option Nat)} {chs : List (Nat × Ch)} {K K' : St → List Sk → Prop} (hK : ∀ σ sks, K σ sks → K' σ sks) : ∀ (os : List Oper) (i : Nat) (σ : St) (sks : List Sk), evL P Γ n ds chs K os i σ sks → evL P Γ n ds chs K' os i σ sks
  | [], i, σ, sks, h => hK σ sks h
  | o :: os, i, σ, sks, h => by
    unfold evL at h ⊢
    cases hg : o.guard with
    | none =>
      rw [hg] at h
      simp only [] at h ⊢
      cases hR : evO P Γ σ.ev σ.hp σ.N (lk chs i .no) o.op with
      | none => rw [hR] at h; exact h.elim
      | some R => rw [hR] at h; exact ⟨h.1, h.2.1, evL_mono hK os _ _ _ h.2.2⟩
    | some jw =>
      obtain ⟨j, want⟩ := jw
      rw [hg] at h
      simp only [] at h ⊢
      cases hb : gB σ ds j with
      | none => rw [hb] at h; exact h.elim
      | some b =>
        rw [hb] at h
        simp only [] at h ⊢
        cases hw : sameB b want with
        | true =>
          rw [hw] at h
          simp only [] at h ⊢
          cases hR : evO P Γ σ.ev σ.hp σ.N (lk chs i .no) o.op with
          | none => rw [hR] at h; exact h.elim
          | some R => rw [hR] at h; exact ⟨h.1, h.2.1, evL_mono hK os _ _ _ h.2.2⟩
        | false => rw [hw] at h; exact ⟨h.1, evL_mono hK os _ _ _ h.2⟩
section
variable {P : Program} {Γ : TEnv} {k0 n : Nat} {Q Q' : Exit → St → Prop} {σ : St}
theorem SR.gc {cx : Cx} (h0 : ∀ t, k0 ≤ t → cx.G0 t = none) {a : Act} {w : World} (hs : SR P cx n σ a w) {ids : List Nat} {Hs : List HC} {env : List (Nat × AV)} (hgc : GcOk k0 σ ids Hs env) : SR P cx n ⟨env, idx Hs 0, Hs.length⟩ a w := by
  obtain ⟨hl, hnd, hk, hm, hlv, henv⟩ := hgc
  obtain ⟨G, I, hg, hd, hn, hv⟩ := hs
  refine ⟨subG G ids, I, (hg.sub h0 hl hnd hk hm hlv).ext (fun t => ?_), hd, hn, fun s => ?_⟩
  · show lk (idx Hs 0) t .dead = lst Hs t
    rw [lk_idx]
    simp [lst]
  · show VR _ I w (lk env s .ud) _
    rcases lk_mem (d := AV.ud) env s with e | e
    · rw [e]; exact .ud _
    · obtain ⟨q1, q2⟩ := henv _ e
      have := hv s
      simp only at q1
      rw [q1] at this
      exact this.unren (subG_idr hl) _ rfl q2
theorem SR.keep {cx : Cx} {a : Act} {w : World} (hs : SR P cx n σ a w) (ks : List Nat) : SR P cx n (σ.keep ks) a w := by
  obtain ⟨G, I, hg, hd, hn, hv⟩ := hs
  refine ⟨G, I, hg, hd, hn, fun s => ?_⟩
  show VR G I w (lk (ks.map fun s => (s, σ.get s)) s .ud) _
  rcases lk_mem (d := AV.ud) (ks.map fun s => (s, σ.get s)) s with e | e
  · rw [e]; exact .ud _
  · obtain ⟨s', _, h'⟩ := List.mem_map.1 e
    injection h' with h1 h2
    subst h1
    rw [← h2]
    exact hv s'
theorem reg (hΓ : EOk P Γ) {id : Nat} {ops : Array Oper} (ks : List Nat) (chs : List (Nat × Ch)) (ds : List (Option Nat)) (hds : ops.toList.map (·.dst) = ds) (h : ∀ K : St → Prop, (∀ σ', Q .normal σ' → K σ') → evR P Γ n ds chs (fun σ => K (σ.keep ks)) ops.toList 0 σ) : AWp P k0 n (.region id ops false) Q σ := by
  intro cx h0 a w hs
  have := h (Q .normal) (fun _ h => h)
  exact wp_region_list (quiet_sound (ops := ops) (ds := ds) (Q := fun e a' w' => ∃ σ', Q e σ' ∧ SR P cx n σ' a' w') hΓ hds.symm (fun σ a w q s => ⟨σ.keep ks, q, s.keep ks⟩) ops.toList 0 σ a w this hs)
theorem regc (hΓ : EOk P Γ) {id : Nat} {ops : Array Oper} (ids : List Nat) (Hs : List HC) (env : List (Nat × AV)) (chs : List (Nat × Ch)) (hi : idsOk k0 ids = true) (ds : List (Option Nat)) (hds : ops.toList.map (·.dst) = ds) (h : ∀ K : St → Prop, (∀ σ', Q .normal σ' → K σ') → evR P Γ n ds chs (fun σ => Seen k0 σ ids Hs env ∧ K ⟨env, idx Hs 0, Hs.length⟩) ops.toList 0 σ) : AWp P k0 n (.region id ops false) Q σ := by
  intro cx h0 a w hs
  have := h (Q .normal) (fun _ h => h)
  exact wp_region_list (quiet_sound (ops := ops) (ds := ds) (Q := fun e a' w' => ∃ σ', Q e σ' ∧ SR P cx n σ' a' w') hΓ hds.symm (fun σ a w q s => ⟨_, q.2, s.gc h0 (q.1.gc hi)⟩) ops.toList 0 σ a w this hs)
theorem draw_to (hm : P.follows .mixedOrders = true) (hΓ : EOk P Γ) {id : Nat} {ops : Array Oper} (ds : List (Option Nat)) (chs : List (Nat × Ch)) (hds : ops.toList.map (·.dst) = ds) (hcode : codeOk ops.toList = true) (T : St → Prop)
    (hT : ∀ cx : Cx, (∀ t, k0 ≤ t → cx.G0 t = none) → ∀ σ a w, T σ → SR P cx n σ a w → ∃ σ', Q .normal σ' ∧ SR P cx n σ' a w) (h : evL P Γ n ds chs (fun σ' sks => skOk ops.toList sks = true ∧ T σ') ops.toList 0 σ []) : AWp P k0 n (.region id ops true) Q σ := by
  intro cx h0 a w hs
  refine Code.wp_mono ?_ (awp_draw (k0 := k0) (Q := fun e σ => match e with | .normal => T σ | _ => False) hm hΓ (id := id) ds chs hds hcode (fun K hK => evL_mono (fun σ' sks q => hK σ' sks q.1 q.2) _ _ _ _ h) cx h0 a w hs)
  rintro e a' w' ⟨σ', q, s⟩
  cases e with
  | normal => exact hT cx h0 σ' a' w' q s
  | _ => exact q.elim
theorem drw (hm : P.follows .mixedOrders = true) (hΓ : EOk P Γ) {id : Nat} {ops : Array Oper} (ks : List Nat) (chs : List (Nat × Ch)) (hcode : codeOk ops.toList = true) (ds : List (Option Nat)) (hds : ops.toList.map (·.dst) = ds)
    (h : ∀ (K : St → Prop) (S : List Sk → Prop), (∀ sks, skOk ops.toList sks = true → S sks) → (∀ σ', Q .normal σ' → K σ') → evL P Γ n ds chs (fun σ sks => S sks ∧ K (σ.keep ks)) ops.toList 0 σ []) : AWp P k0 n (.region id ops true) Q σ :=
  draw_to hm hΓ ds chs hds hcode (fun σ => Q .normal (σ.keep ks)) (fun cx h0 σ a w q s => ⟨_, q, s.keep ks⟩) (h (Q .normal) _ (fun _ h => h) (fun _ h => h))
theorem drwc (hm : P.follows .mixedOrders = true) (hΓ : EOk P Γ) {id : Nat} {ops : Array Oper} (ids : List Nat) (Hs : List HC) (env : List (Nat × AV)) (chs : List (Nat × Ch)) (hi : idsOk k0 ids = true) (hcode : codeOk ops.toList = true) (ds : List (Option Nat)) (hds : ops.toList.map (·.dst) = ds)
    (h : ∀ (K : St → Prop) (S : List Sk → Prop), (∀ sks, skOk ops.toList sks = true → S sks) → (∀ σ', Q .normal σ' → K σ') → evL P Γ n ds chs (fun σ sks => S sks ∧ Seen k0 σ ids Hs env ∧ K ⟨env, idx Hs 0, Hs.length⟩) ops.toList 0 σ []) : AWp P k0 n (.region id ops true) Q σ :=
  draw_to hm hΓ ds chs hds hcode (fun σ => Seen k0 σ ids Hs env ∧ Q .normal ⟨env, idx Hs 0, Hs.length⟩) (fun cx h0 σ a w q s => ⟨_, q.2, s.gc h0 (q.1.gc hi)⟩) (h (Q .normal) _ (fun _ h => h) (fun _ h => h))
theorem tell {c : Code} (ids : List Nat) (Hs : List HC) (env : List (Nat × AV)) (hi : idsOk k0 ids = true) (hs : Seen k0 σ ids Hs env) (h : AWp P k0 n c Q ⟨env, idx Hs 0, Hs.length⟩) : AWp P k0 n c Q σ :=
  fun cx h0 a w s => h cx h0 a w (s.gc h0 (hs.gc hi))
theorem fin0 {rs : List ResultVar} {r : AV} {e : Exit} (he : e = .normal ∨ e = .ret) {l : List AV} (h1 : resA Γ σ rs = some l) (h2 : retA l = r.ren (idr [])) (h3 : r.lt 0 = true) : Fin Γ rs 0 r [] e σ :=
  ⟨he, l, [], h1, h2, h3, rfl, List.nodup_nil, fun i hi => absurd hi (Nat.not_lt_zero i), rfl, rfl⟩
theorem fin {k0 : Nat} {rs : List ResultVar} {r : AV} {Hr : List HC} {e : Exit} (ids : List Nat) (he : e = .normal ∨ e = .ret) {l : List AV} (h1 : resA Γ σ rs = some l) (h2 : retA l = r.ren (idr ids)) (h3 : r.lt Hr.length = true) (hi : idsOk k0 ids = true) (h4 : hpOk σ (idr ids) Hr.length ids Hr) : Fin Γ rs k0 r Hr e σ := by
  obtain ⟨g1, g2, g3⟩ := hpOk_of h4
  have hgc : GcOk k0 σ ids Hr [] := Seen.gc ⟨h4, trivial⟩ hi
  exact ⟨he, l, ids, h1, h2, h3, g1, hgc.2.1, hgc.2.2.1, g2, g3⟩
end
theorem ex_in {id : Nat} {Q : Exit → St → Prop} {σ : St} (h : Q .normal σ) : Ex.inBlock id Q (.exit id) σ := by
  unfold Ex.inBlock
  simpa using h
theorem ex_th {K : St → Prop} {id : Nat} {Q : Exit → St → Prop} {σ : St} (h : Q (.exit id) σ) : Ex.then K Q (.exit id) σ := h
theorem fin_sc {Γ : TEnv} {σ : St} {rs : List ResultVar} {x y : Value} {e : Exit} (hxy : x = y) (he : e = .normal ∨ e = .ret) (h1 : resA Γ σ rs = some [.sc x]) : Fin Γ rs 0 (.sc y) [] e σ := fin0 he h1 (by subst hxy; rfl) rfl
theorem fin_b {Γ : TEnv} {σ : St} {rs : List ResultVar} {b c : Bool} {e : Exit} (hbc : b = c) (he : e = .normal ∨ e = .ret) (h1 : resA Γ σ rs = some [.sc (.bool b)]) : Fin Γ rs 0 (.sc (.bool c)) [] e σ := fin_sc (by rw [hbc]) he h1
theorem awp_dec {P : Program} {k0 n : Nat} {Q : Exit → St → Prop} {σ : St} {c : Operand} {x y : Code} {p : Prop} [Decidable p] (h : σ.ev c = .sc (.bool (decide p))) (hx : p → AWp P k0 n x Q σ) (hy : ¬ p → AWp P k0 n y Q σ) : AWp P k0 n (.cond c x y) Q σ :=
  awp_cond _ h (fun e => hx (of_decide_eq_true e)) (fun e => hy (of_decide_eq_false e))
theorem wrap_i64 {x : Int} (h1 : -9223372036854775808 ≤ x) (h2 : x ≤ 9223372036854775807) : IntKind.i64.wrap x = x := by
  unfold IntKind.wrap
  simp [IntKind.bits, IntKind.signed]
  omega
theorem wrap_succ {k : Nat} (h : k < 9223372036854775807) : IntKind.i64.wrap ((k : Int) + 1) = ((k + 1 : Nat) : Int) := wrap_i64 (by omega) (by omega)
theorem at_row {α : Type} {enc : α → List D} {xs : List α} {i : Nat} {x : α} (h : xs[i]? = some x) : (xs.map enc)[i]? = some (enc x) := by rw [List.getElem?_map, h]; rfl
attribute [go_sem] St.keep envOk hpOk Seen evL skOf skip
end Go.Proofs.YtcbpghpfdjfddaaE
-- Declarations of the text that this claim uses (slim.py, a program of this session).
namespace Go.Proofs.YtcbpghpfdjfddaaE
open Go Go.RowKit
set_option linter.unusedVariables false
set_option linter.unusedSimpArgs false
theorem gs_frz {P : Program} {cx : Cx} {G : Gh} {I : Addr → Prop} {w : World} {H : Nat → HC} {F : Nat → Prop} (hg : GS P cx G I w H F) {t : Nat} {e : TypeId} {sz : Nat} {xs : List (List D)} (ht : H t = .row e sz xs) :
    ∃ I', GS P cx G I' w (fun s => if s = t then .dead else H s) F ∧ Mono G I w G I' w ∧ ∀ v, G t = some v → VR G I' w (.ls sz xs) v := by
  have hcr := hg.h.cr t
  rw [ht] at hcr
  obtain ⟨h0, hrow, v, vs, hgt, ho, hx⟩ := hcr
  have hbk : ∀ s b, blk (if s = t then HC.dead else H s) (G s) = some b → s ≠ t ∧ blk (H s) (G s) = some b := fun s b h => by
    by_cases hs : s = t
    · rw [if_pos hs] at h; cases h
    · rw [if_neg hs] at h; exact ⟨hs, h⟩
  have hgen : ∀ I' : Addr → Prop, Mono G I w G I' w → (∀ a, I' a → I a ∨ (a.spot = none ∧ (w.cell? a).isSome = true ∧ blk (H t) (G t) = some a.block)) → GS P cx G I' w (fun s => if s = t then .dead else H s) F := by
    intro I' hm hI
    refine ⟨⟨fun s => ?_, fun s s' b hne h h' => ?_, fun a ha => ?_, fun s hs => ?_⟩, ⟨hg.c.os, hg.c.tape, hg.c.output, hg.c.size, hg.c.frame, hg.c.up, fun s b h => ?_, hg.c.mono.trans hm, fun a ha => ?_⟩⟩
    · show CR P G I' w (if s = t then .dead else H s) (G s)
      split
      · trivial
      · exact (hg.h.cr s).mono hm (fun _ _ => rfl)
    · exact hg.h.sep s s' b hne (hbk s b h).2 (hbk s' b h').2
    · rcases hI a ha with h | ⟨h1, h2, h3⟩
      · obtain ⟨a1, a2, a3⟩ := hg.h.imm a h
        exact ⟨a1, a2, fun s hs => a3 s (hbk s _ hs).2⟩
      · exact ⟨h1, h2, fun s hs => hg.h.sep t s a.block (fun e => (hbk s _ hs).1 e.symm) h3 (hbk s _ hs).2⟩
    · obtain ⟨d1, d2⟩ := hg.h.dom s hs
      refine ⟨?_, d2⟩
      show (if s = t then HC.dead else H s) = .dead
      rw [d1, ite_self]
    · exact hg.c.live s b (hbk s b h).2
    · rcases hI a ha with h | ⟨_, _, h3⟩
      · exact hg.c.inew a h
      · exact .inr (hg.c.live t _ h3)
  rcases ho.2 with ⟨hv, hn⟩ | ⟨g, cap, cur, hv, _, hh, hcap, _, _, _⟩
  · refine ⟨I, hgen I (Mono.refl _ _ _) (fun a ha => .inl ha), Mono.refl _ _ _, fun v' hv' => ?_⟩
    obtain rfl : v = v' := Option.some.inj (hgt.symm.trans hv')
    obtain rfl : xs = [] := List.length_eq_zero_iff.1 hn
    rw [hv]
    exact .ls _ _ _ (.l sz [] ⟨0, 0, none⟩ none 0 (fun _ _ => undef) (Nat.le_refl _) (fun r hr => by cases hr) (fun h => absurd rfl h) rfl (fun i j r x h => by simp at h) (fun i j r x h => by simp at h))
  · have hm : Mono G I w G (fun a => I a ∨ ∃ j, j < xs.length * sz ∧ a = ⟨g, j, none⟩) w := ⟨fun _ _ h => h, fun a ha => ⟨.inl ha, rfl⟩⟩
    subst hv
    refine ⟨_, hgen _ hm (fun a ha => ?_), hm, fun v' hv' => ?_⟩
    · rcases ha with ha | ⟨j, hj, rfl⟩
      · exact .inl ha
      · refine .inr ⟨rfl, ?_, by rw [ht, hgt]; rfl⟩
        have hlt : j < vs.length := by rw [ho.1]; exact hj
        rw [ownsRow_cell ho (List.getElem?_eq_getElem hlt)]
        rfl
    · obtain rfl := Option.some.inj (hgt.symm.trans hv')
      refine .ls _ _ _ (.l sz xs ⟨g, 0, none⟩ _ cap (fun i j => vs.getD (i * sz + j) undef) hcap hrow (fun _ => rfl) rfl (fun i j r x hi hj => ?_) (fun i j r x hi hj => ?_))
      · obtain ⟨u, hu, _⟩ := hx i j r x hi hj
        have hlt := (List.getElem?_eq_some_iff.1 hu).1
        rw [ho.1] at hlt
        rw [add_lit, Nat.zero_add]
        refine ⟨.inr ⟨_, hlt, rfl⟩, ?_⟩
        rw [ownsRow_cell ho hu, List.getD_eq_getElem?_getD, hu]
        rfl
      · obtain ⟨u, hu, hd⟩ := hx i j r x hi hj
        show DR _ w x (vs.getD (i * sz + j) undef)
        rw [List.getD_eq_getElem?_getD, hu]
        exact hd.mono hm.2
mutual
/-- An own row (number t) told as data. -/
def AV.frz (t sz : Nat) (xs : List (List D)) : AV → AV
  | .ow s => if s = t then .ls sz xs else .ow s
  | .fn f cap => .fn f (AV.frzL t sz xs cap)
  | .ag cs => .ag (AV.frzL t sz xs cs)
  | .tp cs => .tp (AV.frzL t sz xs cs)
  | x => x
def AV.frzL (t sz : Nat) (xs : List (List D)) : List AV → List AV
  | [] => []
  | x :: r => AV.frz t sz xs x :: AV.frzL t sz xs r
end
theorem frzL_get (t sz : Nat) (xs : List (List D)) : ∀ (cs : List AV) (i : Nat), (AV.frzL t sz xs cs)[i]? = (cs[i]?).map (AV.frz t sz xs)
  | [], i => by simp [AV.frzL]
  | x :: r, 0 => by simp [AV.frzL]
  | x :: r, i + 1 => by simp [AV.frzL, frzL_get t sz xs r i]
theorem frzL_len (t sz : Nat) (xs : List (List D)) : ∀ (cs : List AV), (AV.frzL t sz xs cs).length = cs.length
  | [] => rfl
  | x :: r => by simp [AV.frzL, frzL_len t sz xs r]
theorem frz_leaf (t sz : Nat) (xs : List (List D)) (x : AV) (h : x.leaf = true) : (AV.frz t sz xs x).leaf = true := by
  cases x with
  | ow s => unfold AV.frz; split <;> rfl
  | ag | tp | ud => cases h
  | _ => rfl
theorem VR.frz {G : Gh} {I I' : Addr → Prop} {w : World} {t sz : Nat} {xs : List (List D)} (hm : Mono G I w G I' w) (ht : ∀ v, G t = some v → VR G I' w (.ls sz xs) v) {x : AV} {v : Value} (h : VR G I w x v) : VR G I' w (x.frz t sz xs) v := by
  induction h with
  | sc x h => exact .sc x h
  | ls sz xs v h => exact .ls sz xs v (h.mono hm.2)
  | nl => exact .nl
  | ow s A n c h =>
    unfold AV.frz
    split
    · rename_i e; subst e; exact ht _ h
    · exact .ow s A n c h
  | pt t off b h => exact .pt t off b h
  | el row off a val hsp h hd => exact (VR.el row off a val hsp h hd).mono hm
  | rp t sz i off b n c h => exact .rp t sz i off b n c h
  | mp t b h => exact .mp t b h
  | fn f cap vs hn h ih =>
    refine .fn f _ vs (by rw [frzL_len]; exact hn) (fun i x hi => ?_)
    rw [frzL_get] at hi
    obtain ⟨y, hy, rfl⟩ := Option.map_eq_some_iff.1 hi
    exact ih i y hy
  | ag cs vs hn hl h ih =>
    refine .ag _ vs (by rw [frzL_len]; exact hn) (fun x hx => ?_) (fun i x hi => ?_)
    · obtain ⟨i, hi⟩ := List.mem_iff_getElem?.1 hx
      rw [frzL_get] at hi
      obtain ⟨y, hy, rfl⟩ := Option.map_eq_some_iff.1 hi
      exact frz_leaf t sz xs y (hl y (List.mem_of_getElem? hy))
    · rw [frzL_get] at hi
      obtain ⟨y, hy, rfl⟩ := Option.map_eq_some_iff.1 hi
      exact ih i y hy
  | tp cs vs hn h ih =>
    refine .tp _ vs (by rw [frzL_len]; exact hn) (fun i x hi => ?_)
    rw [frzL_get] at hi
    obtain ⟨y, hy, rfl⟩ := Option.map_eq_some_iff.1 hi
    exact ih i y hy
  | ud v => exact .ud v
def HC.frz (t sz : Nat) (xs : List (List D)) : HC → HC
  | .bx cs => .bx (AV.frzL t sz xs cs)
  | c => c
theorem blk_frz (t sz : Nat) (xs : List (List D)) (c : HC) (g : Option Value) : blk (c.frz t sz xs) g = blk c g := by cases c <;> rfl
theorem gs_frz2 {P : Program} {cx : Cx} {G : Gh} {I : Addr → Prop} {w : World} {H : Nat → HC} {F : Nat → Prop} (hg : GS P cx G I w H F) {t : Nat} {e : TypeId} {sz : Nat} {xs : List (List D)} (ht : H t = .row e sz xs) :
    ∃ I', GS P cx G I' w (fun s => if s = t then .dead else (H s).frz t sz xs) F ∧ ∀ x v, VR G I w x v → VR G I' w (x.frz t sz xs) v := by
  obtain ⟨I', hg', hm, hv⟩ := gs_frz hg ht
  have hb : ∀ s b, blk (if s = t then HC.dead else (H s).frz t sz xs) (G s) = some b → blk (if s = t then HC.dead else H s) (G s) = some b := fun s b h => by
    split <;> rename_i hs
    · rw [if_pos hs] at h; exact h
    · rw [if_neg hs, blk_frz] at h; exact h
  refine ⟨I', ⟨⟨fun s => ?_, fun s s' b hne h h' => hg'.h.sep s s' b hne (hb s b h) (hb s' b h'), fun a ha => ?_, fun s hs => ?_⟩, ⟨hg'.c.os, hg'.c.tape, hg'.c.output, hg'.c.size, hg'.c.frame, hg'.c.up, fun s b h => hg'.c.live s b (hb s b h), hg'.c.mono, hg'.c.inew⟩⟩, fun x v h => h.frz hm hv⟩
  · have hs := hg'.h.cr s
    show CR P G I' w (if s = t then .dead else (H s).frz t sz xs) (G s)
    change CR P G I' w (if s = t then .dead else H s) (G s) at hs
    by_cases e : s = t
    · rw [if_pos e]; trivial
    · rw [if_neg e]
      have h0 := hg.h.cr s
      rw [if_neg e] at hs
      cases hc : H s with
      | bx cs =>
        rw [hc] at h0
        obtain ⟨b, vs, T, h1, h2, h3, h4⟩ := h0
        refine ⟨b, vs, T, h1, h2, by rw [frzL_len]; exact h3, fun i x hi => ?_⟩
        rw [frzL_get] at hi
        obtain ⟨y, hy, rfl⟩ := Option.map_eq_some_iff.1 hi
        exact ⟨frz_leaf t sz xs y (h4 i y hy).1, (h4 i y hy).2.frz hm hv⟩
      | _ => rw [hc] at hs; exact hs
  · obtain ⟨a1, a2, a3⟩ := hg'.h.imm a ha
    exact ⟨a1, a2, fun s h => a3 s (hb s _ h)⟩
  · obtain ⟨d1, d2⟩ := hg'.h.dom s hs
    refine ⟨?_, d2⟩
    show (if s = t then HC.dead else (H s).frz t sz xs) = .dead
    split
    · rfl
    · rename_i e
      change (if s = t then HC.dead else H s) = .dead at d1
      rw [if_neg e] at d1
      rw [d1]; rfl
section
variable {P : Program} {Γ : TEnv} {k0 n : Nat} {Q Q' : Exit → St → Prop} {σ : St}
def frzE (t sz : Nat) (xs : List (List D)) : List (Nat × AV) → List (Nat × AV)
  | [] => []
  | (s, v) :: r => (s, v.frz t sz xs) :: frzE t sz xs r
def frzH (t sz : Nat) (xs : List (List D)) : List (Nat × HC) → List (Nat × HC)
  | [] => []
  | (s, v) :: r => if s = t then frzH t sz xs r else (s, v.frz t sz xs) :: frzH t sz xs r
theorem lk_frzE (t sz : Nat) (xs : List (List D)) : ∀ (l : List (Nat × AV)) (s : Nat), lk (frzE t sz xs l) s .ud = (lk l s .ud).frz t sz xs
  | [], s => rfl
  | (k, v) :: r, s => by
    unfold frzE lk
    split
    · rfl
    · exact lk_frzE t sz xs r s
theorem lk_frzH (t sz : Nat) (xs : List (List D)) : ∀ (l : List (Nat × HC)) (s : Nat), lk (frzH t sz xs l) s .dead = if s = t then .dead else (lk l s .dead).frz t sz xs
  | [], s => by unfold frzH lk; split <;> rfl
  | (k, v) :: r, s => by
    unfold frzH
    split
    · rename_i h
      rw [lk_frzH t sz xs r s]
      subst h
      by_cases hs : s = k
      · rw [if_pos hs, if_pos hs]
      · rw [if_neg hs, if_neg hs]
        conv => rhs; unfold lk
        rw [if_neg (fun e => hs e.symm)]
    · rename_i h
      unfold lk
      split
      · rename_i h'
        rw [if_neg (by omega)]
      · exact lk_frzH t sz xs r s
theorem frz {c : Code} (t : Nat) (e : TypeId) (sz : Nat) (xs : List (List D)) (ht : σ.hp t = .row e sz xs) (h : AWp P k0 n c Q ⟨frzE t sz xs σ.env, frzH t sz xs σ.H, σ.N⟩) : AWp P k0 n c Q σ := by
  intro cx h0 a w ⟨G, I, hg, hd, hn, hv⟩
  obtain ⟨I', hg', hm⟩ := gs_frz2 hg ht
  refine h cx h0 a w ⟨G, I', hg'.ext (fun s => ?_), hd, hn, fun s => ?_⟩
  · show lk (frzH t sz xs σ.H) s .dead = _
    exact lk_frzH t sz xs σ.H s
  · show VR G I' w (lk (frzE t sz xs σ.env) s .ud) _
    rw [lk_frzE]
    exact hm _ _ (hv s)
mutual
/-- A weaker view of a value: nil is an empty slice. -/
def AV.le : AV → AV → Prop
  | .nl, .ls _ xs => xs = []
  | .ag a, .ag b => AV.leL a b
  | .tp a, .tp b => AV.leL a b
  | x, y => x = y
def AV.leL : List AV → List AV → Prop
  | [], [] => True
  | x :: a, y :: b => AV.le x y ∧ AV.leL a b
  | _, _ => False
end
theorem leL_get : ∀ {a b : List AV}, AV.leL a b → a.length = b.length ∧ ∀ (i : Nat) (y : AV), b[i]? = some y → ∃ x, a[i]? = some x ∧ AV.le x y
  | [], [], _ => ⟨rfl, fun i y h => by simp at h⟩
  | x :: a, y :: b, h => by
    obtain ⟨h1, h2⟩ := h
    obtain ⟨g1, g2⟩ := leL_get h2
    refine ⟨by simp [g1], fun i z hi => ?_⟩
    match i, hi with
    | 0, hi => injection hi with hi; subst hi; exact ⟨x, rfl, h1⟩
    | i + 1, hi => exact g2 i z hi
  | [], _ :: _, h => h.elim
  | _ :: _, [], h => h.elim
theorem le_leaf {x y : AV} (h : AV.le x y) (hx : x.leaf = true) : y.leaf = true := by
  unfold AV.le at h
  split at h
  · rfl
  · cases hx
  · cases hx
  · subst h; exact hx
theorem le_inv {x y : AV} (h : AV.le x y) : (x = .nl ∧ ∃ sz, y = .ls sz []) ∨ (∃ a b, x = .ag a ∧ y = .ag b ∧ AV.leL a b) ∨ (∃ a b, x = .tp a ∧ y = .tp b ∧ AV.leL a b) ∨ x = y := by
  unfold AV.le at h
  split at h
  · subst h; exact .inl ⟨rfl, _, rfl⟩
  · exact .inr (.inl ⟨_, _, rfl, rfl, h⟩)
  · exact .inr (.inr (.inl ⟨_, _, rfl, rfl, h⟩))
  · exact .inr (.inr (.inr h))
theorem VR.weak {G : Gh} {I : Addr → Prop} {w : World} {x : AV} {v : Value} (h : VR G I w x v) : ∀ {y : AV}, AV.le x y → VR G I w y v := by
  induction h with
  | nl =>
    intro y hy
    rcases le_inv hy with ⟨_, sz, rfl⟩ | ⟨a, b, e, _⟩ | ⟨a, b, e, _⟩ | rfl
    · exact .ls _ _ _ (.l sz [] ⟨0, 0, none⟩ none 0 (fun _ _ => undef) (Nat.le_refl _) (fun r hr => by cases hr) (fun h => absurd rfl h) rfl (fun i j r x h => by simp at h) (fun i j r x h => by simp at h))
    · cases e
    · cases e
    · exact .nl
  | ag cs vs hn hl h ih =>
    intro y hy
    rcases le_inv hy with ⟨e, _⟩ | ⟨a, b, e, rfl, hle⟩ | ⟨a, b, e, _⟩ | rfl
    · cases e
    · injection e with e; subst e
      obtain ⟨g1, g2⟩ := leL_get hle
      refine .ag _ vs (hn.trans g1) (fun z hz => ?_) (fun i z hi => ?_)
      · obtain ⟨i, hi⟩ := List.mem_iff_getElem?.1 hz
        obtain ⟨x, hx, hle⟩ := g2 i z hi
        exact le_leaf hle (hl x (List.mem_of_getElem? hx))
      · obtain ⟨x, hx, hle⟩ := g2 i z hi
        exact ih i x hx hle
    · cases e
    · exact .ag cs vs hn hl h
  | tp cs vs hn h ih =>
    intro y hy
    rcases le_inv hy with ⟨e, _⟩ | ⟨a, b, e, _⟩ | ⟨a, b, e, rfl, hle⟩ | rfl
    · cases e
    · cases e
    · injection e with e; subst e
      obtain ⟨g1, g2⟩ := leL_get hle
      refine .tp _ vs (hn.trans g1) (fun i z hi => ?_)
      obtain ⟨x, hx, hle⟩ := g2 i z hi
      exact ih i x hx hle
    · exact .tp cs vs hn h
  | sc x h =>
    intro y hy
    rcases le_inv hy with ⟨e, _⟩ | ⟨_, _, e, _⟩ | ⟨_, _, e, _⟩ | rfl
    · cases e
    · cases e
    · cases e
    · exact .sc x h
  | ls sz xs v h =>
    intro y hy
    rcases le_inv hy with ⟨e, _⟩ | ⟨_, _, e, _⟩ | ⟨_, _, e, _⟩ | rfl
    · cases e
    · cases e
    · cases e
    · exact .ls sz xs v h
  | ow t A n c h =>
    intro y hy
    rcases le_inv hy with ⟨e, _⟩ | ⟨_, _, e, _⟩ | ⟨_, _, e, _⟩ | rfl
    · cases e
    · cases e
    · cases e
    · exact .ow t A n c h
  | pt t off b h =>
    intro y hy
    rcases le_inv hy with ⟨e, _⟩ | ⟨_, _, e, _⟩ | ⟨_, _, e, _⟩ | rfl
    · cases e
    · cases e
    · cases e
    · exact .pt t off b h
  | el row off a val hsp h hd =>
    intro y hy
    rcases le_inv hy with ⟨e, _⟩ | ⟨_, _, e, _⟩ | ⟨_, _, e, _⟩ | rfl
    · cases e
    · cases e
    · cases e
    · exact .el row off a val hsp h hd
  | rp t sz i off b n c h =>
    intro y hy
    rcases le_inv hy with ⟨e, _⟩ | ⟨_, _, e, _⟩ | ⟨_, _, e, _⟩ | rfl
    · cases e
    · cases e
    · cases e
    · exact .rp t sz i off b n c h
  | mp t b h =>
    intro y hy
    rcases le_inv hy with ⟨e, _⟩ | ⟨_, _, e, _⟩ | ⟨_, _, e, _⟩ | rfl
    · cases e
    · cases e
    · cases e
    · exact .mp t b h
  | fn f cap vs hn h ih =>
    intro y hy
    rcases le_inv hy with ⟨e, _⟩ | ⟨_, _, e, _⟩ | ⟨_, _, e, _⟩ | rfl
    · cases e
    · cases e
    · cases e
    · exact .fn f cap vs hn h
  | ud v =>
    intro y hy
    rcases le_inv hy with ⟨e, _⟩ | ⟨_, _, e, _⟩ | ⟨_, _, e, _⟩ | rfl
    · cases e
    · cases e
    · cases e
    · exact .ud v
def HC.le : HC → HC → Prop
  | .bx a, .bx b => AV.leL a b
  | x, y => x = y
theorem CR.weak {G : Gh} {I : Addr → Prop} {w : World} {c c' : HC} {g : Option Value} (h : CR P G I w c g) (hle : HC.le c c') : CR P G I w c' g ∧ ∀ b, blk c' g = some b → blk c g = some b := by
  unfold HC.le at hle
  split at hle
  · obtain ⟨b, vs, T, h1, h2, h3, h4⟩ := h
    obtain ⟨g1, g2⟩ := leL_get hle
    refine ⟨⟨b, vs, T, h1, h2, h3.trans g1, fun i x hi => ?_⟩, fun b h => h⟩
    obtain ⟨y, hy, hl⟩ := g2 i x hi
    exact ⟨le_leaf hl (h4 i y hy).1, (h4 i y hy).2.weak hl⟩
  · subst hle; exact ⟨h, fun _ h => h⟩
def viewE (σ : St) : List (Nat × AV) → Prop
  | [] => True
  | (s, v) :: r => AV.le (σ.get s) v ∧ viewE σ r
def viewH (σ : St) : List (Nat × HC) → Prop
  | [] => True
  | (s, v) :: r => HC.le (σ.hp s) v ∧ viewH σ r
theorem viewE_mem {σ : St} : ∀ {env : List (Nat × AV)}, viewE σ env → ∀ p ∈ env, AV.le (σ.get p.1) p.2
  | (s, v) :: r, h, p, hp => by
    rcases List.mem_cons.1 hp with rfl | hp
    · exact h.1
    · exact viewE_mem h.2 p hp
theorem viewH_mem {σ : St} : ∀ {H : List (Nat × HC)}, viewH σ H → ∀ p ∈ H, HC.le (σ.hp p.1) p.2
  | (s, v) :: r, h, p, hp => by
    rcases List.mem_cons.1 hp with rfl | hp
    · exact h.1
    · exact viewH_mem h.2 p hp
theorem view {c : Code} (env : List (Nat × AV)) (H : List (Nat × HC)) (he : viewE σ env) (hh : viewH σ H) (h : AWp P k0 n c Q ⟨env, H, σ.N⟩) : AWp P k0 n c Q σ := by
  intro cx h0 a w ⟨G, I, hg, hd, hn, hv⟩
  have hc : ∀ t, CR P G I w (lk H t .dead) (G t) ∧ ∀ b, blk (lk H t .dead) (G t) = some b → blk (σ.hp t) (G t) = some b := fun t => by
    rcases lk_mem (d := HC.dead) H t with e | e
    · rw [e]; exact ⟨trivial, fun b h => by cases h⟩
    · exact (hg.h.cr t).weak (viewH_mem hh _ e)
  refine h cx h0 a w ⟨G, I, ⟨⟨fun t => (hc t).1, fun t t' b hne h1 h2 => hg.h.sep t t' b hne ((hc t).2 b h1) ((hc t').2 b h2), fun a ha => ?_, fun t ht => ?_⟩, ⟨hg.c.os, hg.c.tape, hg.c.output, hg.c.size, hg.c.frame, hg.c.up, fun t b hb => hg.c.live t b ((hc t).2 b hb), hg.c.mono, hg.c.inew⟩⟩, hd, hn, fun s => ?_⟩
  · obtain ⟨a1, a2, a3⟩ := hg.h.imm a ha
    exact ⟨a1, a2, fun t hb => a3 t ((hc t).2 _ hb)⟩
  · obtain ⟨d1, d2⟩ := hg.h.dom t ht
    refine ⟨?_, d2⟩
    show lk H t .dead = .dead
    rcases lk_mem (d := HC.dead) H t with e | e
    · exact e
    · have := viewH_mem hh _ e
      simp only at this
      change σ.hp t = .dead at d1
      rw [d1] at this
      unfold HC.le at this
      split at this
      · rename_i e' _; cases e'
      · exact this.symm
  · show VR G I w (lk env s .ud) _
    rcases lk_mem (d := AV.ud) env s with e | e
    · rw [e]; exact .ud _
    · exact (hv s).weak (viewE_mem he _ e)
end
theorem dec_T {h : Decidable True} : @decide True h = true := by
  cases h with
  | isTrue _ => rfl
  | isFalse h => exact absurd trivial h
theorem dec_F {h : Decidable False} : @decide False h = false := by
  cases h with
  | isTrue h => exact h.elim
  | isFalse _ => rfl
attribute [go_sem] dec_T dec_F AV.frz AV.frzL HC.frz frzE frzH AV.le AV.leL HC.le viewE viewH
theorem Tri.frz1 {P : Program} {f : FuncId} {ags : List AV} {e : TypeId} {sz : Nat} {xs : List (List D)} (h : Tri P f ags [] (.ow 0) [.row e sz xs]) : Tri P f ags [] (.ls sz xs) [] := by
  obtain ⟨h1, h2, h3⟩ := h
  refine ⟨h1, Nat.le_refl _, fun G I w vs hr hn hv => Calls.mono (h3 G I w vs hr hn hv) ?_⟩
  rintro ex w' ⟨v, G', I', rfl, hg, hvr⟩
  obtain ⟨I2, hg2, hm, hv2⟩ := gs_frz (t := 0) hg rfl
  cases hvr with
  | ow _ A n c hG =>
    refine ⟨_, _, I2, rfl, (hg2.sub (k0 := 0) (ids := []) (Hs := []) (fun t _ => (hr.dom t (Nat.zero_le _)).2) rfl List.nodup_nil (fun i hi => absurd hi (Nat.not_lt_zero i)) rfl rfl), ?_⟩
    have := hv2 _ hG
    cases this with
    | ls _ _ _ h => exact .ls _ _ _ h
theorem Tri.frz2 {P : Program} {f : FuncId} {ags : List AV} {e e' : TypeId} {sz sz' : Nat} {xs ys : List (List D)} {q : Value} (h : Tri P f ags [] (.tp [.ag [.ow 0, .ow 1], .sc q]) [.row e sz xs, .row e' sz' ys]) : Tri P f ags [] (.tp [.ag [.ls sz xs, .ls sz' ys], .sc q]) [] := by
  obtain ⟨h1, h2, h3⟩ := h
  refine ⟨h1, Nat.le_refl _, fun G I w vs hr hn hv => Calls.mono (h3 G I w vs hr hn hv) ?_⟩
  rintro ex w' ⟨v, G', I', rfl, hg, hvr⟩
  obtain ⟨I2, hg2, hm2⟩ := gs_frz2 (t := 0) (e := e) (sz := sz) (xs := xs) hg rfl
  obtain ⟨I3, hg3, hm3⟩ := gs_frz2 (t := 1) (e := e') (sz := sz') (xs := ys) hg2 rfl
  refine ⟨_, _, I3, rfl, (hg3.sub (k0 := 0) (ids := []) (Hs := []) (fun t _ => (hr.dom t (Nat.zero_le _)).2) rfl List.nodup_nil (fun i hi => absurd hi (Nat.not_lt_zero i)) rfl rfl), ?_⟩
  have := hm3 _ _ (hm2 _ _ hvr)
  exact this.unren (subG_idr (ids := []) rfl) (.tp [.ag [.ls sz xs, .ls sz' ys], .sc q]) rfl rfl
end Go.Proofs.YtcbpghpfdjfddaaE
-- Declarations of the text that this claim uses (slim.py, a program of this session).
namespace Go.Proofs.YtcbpghpfdjfddaaE
open Go Go.RowKit
def ty3 : TI := ⟨.int .i64, .int .i64 0, 1, 8, false⟩
def ty4 : TI := ⟨.bool, .bool false, 1, 1, false⟩
def ty5 : TI := ⟨.int .u8, .int .u8 0, 1, 1, false⟩
def ty9 : TI := ⟨.str, .string ⟨#[]⟩, 1, 16, false⟩
def ty22 : TI := ⟨.slc 43, .slice none 0 0, 1, 24, false⟩
def ty23 : TI := ⟨.slc 45, .slice none 0 0, 1, 24, false⟩
def ty25 : TI := ⟨.strct [(22, 0), (23, 1)], .agg #[.slice none 0 0, .slice none 0 0], 2, 48, false⟩
def ty26 : TI := ⟨.slc 5, .slice none 0 0, 1, 24, false⟩
def ty30 : TI := ⟨.slc 25, .slice none 0 0, 1, 24, false⟩
def ty31 : TI := ⟨.slc 3, .slice none 0 0, 1, 24, false⟩
def ty32 : TI := ⟨.int .i64, .int .i64 0, 1, 8, false⟩
def ty40 : TI := ⟨.map 3 3, .map none, 1, 8, false⟩
def ty43 : TI := ⟨.strct [(3, 0), (3, 1), (3, 2), (3, 3)], .agg #[.int .i64 0, .int .i64 0, .int .i64 0, .int .i64 0], 4, 32, true⟩
def ty45 : TI := ⟨.strct [(3, 0), (3, 1), (3, 2), (3, 3)], .agg #[.int .i64 0, .int .i64 0, .int .i64 0, .int .i64 0], 4, 32, true⟩
def ty48 : TI := ⟨.leaf, .pointer none, 1, 8, false⟩
def ty75 : TI := ⟨.strct [(26, 0)], .agg #[.slice none 0 0], 1, 24, false⟩
def Γ : TEnv := fun t => match t with
  | 3 => some ty3
  | 4 => some ty4
  | 5 => some ty5
  | 9 => some ty9
  | 22 => some ty22
  | 23 => some ty23
  | 25 => some ty25
  | 26 => some ty26
  | 30 => some ty30
  | 31 => some ty31
  | 32 => some ty32
  | 40 => some ty40
  | 43 => some ty43
  | 45 => some ty45
  | 48 => some ty48
  | 75 => some ty75
  | _ => none
theorem tok3 : TOk Try.prog 3 ty3 := ⟨by kernel_rfl, by kernel_rfl, by kernel_rfl⟩
theorem tok4 : TOk Try.prog 4 ty4 := ⟨by kernel_rfl, by kernel_rfl, by kernel_rfl⟩
theorem tok5 : TOk Try.prog 5 ty5 := ⟨by kernel_rfl, by kernel_rfl, by kernel_rfl⟩
theorem tok9 : TOk Try.prog 9 ty9 := ⟨by kernel_rfl, by kernel_rfl, by kernel_rfl⟩
theorem tok22 : TOk Try.prog 22 ty22 := ⟨by kernel_rfl, by kernel_rfl, by kernel_rfl⟩
theorem tok23 : TOk Try.prog 23 ty23 := ⟨by kernel_rfl, by kernel_rfl, by kernel_rfl⟩
theorem tok25 : TOk Try.prog 25 ty25 := ⟨by kernel_rfl, by kernel_rfl, by kernel_rfl⟩
theorem tok26 : TOk Try.prog 26 ty26 := ⟨by kernel_rfl, by kernel_rfl, by kernel_rfl⟩
theorem tok30 : TOk Try.prog 30 ty30 := ⟨by kernel_rfl, by kernel_rfl, by kernel_rfl⟩
theorem tok31 : TOk Try.prog 31 ty31 := ⟨by kernel_rfl, by kernel_rfl, by kernel_rfl⟩
theorem tok32 : TOk Try.prog 32 ty32 := ⟨by kernel_rfl, by kernel_rfl, by kernel_rfl⟩
theorem tok40 : TOk Try.prog 40 ty40 := ⟨by kernel_rfl, by kernel_rfl, by kernel_rfl⟩
theorem tok43 : TOk Try.prog 43 ty43 := ⟨by kernel_rfl, by kernel_rfl, by kernel_rfl⟩
theorem tok45 : TOk Try.prog 45 ty45 := ⟨by kernel_rfl, by kernel_rfl, by kernel_rfl⟩
theorem tok48 : TOk Try.prog 48 ty48 := ⟨by kernel_rfl, by kernel_rfl, by kernel_rfl⟩
theorem tok75 : TOk Try.prog 75 ty75 := ⟨by kernel_rfl, by kernel_rfl, by kernel_rfl⟩
theorem Γ_ok : EOk Try.prog Γ := by
  intro t i h
  unfold Γ at h
  split at h
  · cases h; exact tok3
  · cases h; exact tok4
  · cases h; exact tok5
  · cases h; exact tok9
  · cases h; exact tok22
  · cases h; exact tok23
  · cases h; exact tok25
  · cases h; exact tok26
  · cases h; exact tok30
  · cases h; exact tok31
  · cases h; exact tok32
  · cases h; exact tok40
  · cases h; exact tok43
  · cases h; exact tok45
  · cases h; exact tok48
  · cases h; exact tok75
  · cases h
theorem Γ3 : Γ 3 = some ty3 := rfl
theorem Γ4 : Γ 4 = some ty4 := rfl
theorem Γ5 : Γ 5 = some ty5 := rfl
theorem Γ9 : Γ 9 = some ty9 := rfl
theorem Γ22 : Γ 22 = some ty22 := rfl
theorem Γ23 : Γ 23 = some ty23 := rfl
theorem Γ25 : Γ 25 = some ty25 := rfl
theorem Γ26 : Γ 26 = some ty26 := rfl
theorem Γ30 : Γ 30 = some ty30 := rfl
theorem Γ31 : Γ 31 = some ty31 := rfl
theorem Γ32 : Γ 32 = some ty32 := rfl
theorem Γ40 : Γ 40 = some ty40 := rfl
theorem Γ43 : Γ 43 = some ty43 := rfl
theorem Γ45 : Γ 45 = some ty45 := rfl
theorem Γ48 : Γ 48 = some ty48 := rfl
theorem Γ75 : Γ 75 = some ty75 := rfl
attribute [go_sem] ty3 Γ3 ty4 Γ4 ty5 Γ5 ty9 Γ9 ty22 Γ22 ty23 Γ23 ty25 Γ25 ty26 Γ26 ty30 Γ30 ty31 Γ31 ty32 Γ32 ty40 Γ40 ty43 Γ43 ty45 Γ45 ty48 Γ48 ty75 Γ75
end Go.Proofs.YtcbpghpfdjfddaaE
-- Declarations of the printer's words that this claim uses (slim.py, a program of this session).
namespace Go.Proofs.YtcbpghpfdjfddaaE
open Go Go.RowKit
set_option linter.unusedVariables false
set_option linter.unusedSimpArgs false
def dI (n : Int) : D := .v (.int .i64 n)
abbrev Lk := Go.Proofs.Ytcbpghpfdjfddaa.Q.S45
abbrev Nd := Go.Proofs.Ytcbpghpfdjfddaa.Q.S43
def encL (l : Lk) : List D := [dI l.f0, dI l.f1, dI l.f2, dI l.f3]
def encN (l : Nd) : List D := [dI l.f0, dI l.f1, dI l.f2, dI l.f3]
attribute [go_sem] encL encN dI
theorem mixed : Try.prog.follows .mixedOrders = true := by kernel_rfl
def eqL (a b : Lk) : Bool := decide (a.f0 = b.f0) && (decide (a.f1 = b.f1) && (decide (a.f2 = b.f2) && decide (a.f3 = b.f3)))
end Go.Proofs.YtcbpghpfdjfddaaE
-- Declarations of the text that this claim uses (slim.py, a program of this session).
namespace Go.Proofs.YtcbpghpfdjfddaaE
open Go Go.RowKit Go.Proofs.YtcbpghpfdjfddaaW.PrintWords Go.Proofs.YtcbpghpfdjfddaaW.PrintLast Go.Proofs.YtcbpghpfdjfddaaW.PrintMore
set_option linter.unusedVariables false
set_option linter.unusedSimpArgs false
structure Flat {α : Type} (d : Kd α) (vals : α → List Value) (enc : α → List D) (sz : Nat) : Prop where
  size : d.sz = sz
  pos : 0 < sz
  K : ∀ w x, d.K w x (vals x)
  M : ∀ w base ok x cs, d.M w base ok x cs → cs = vals x
  enc : ∀ x, enc x = (vals x).map D.v
  len : ∀ x, (vals x).length = sz
  one : ∀ x, ∀ u ∈ vals x, u.oneCell' = true
theorem Flat.row {α : Type} {d : Kd α} {vals : α → List Value} {enc : α → List D} {sz : Nat} (hf : Flat d vals enc sz) {xs : List α} : ∀ r ∈ xs.map enc, r.length = sz := by
  intro r hr
  obtain ⟨x, _, rfl⟩ := List.mem_map.1 hr
  rw [hf.enc, List.length_map, hf.len]
theorem rd_dr {α : Type} {d : Kd α} {vals : α → List Value} {enc : α → List D} {sz : Nat} (hf : Flat d vals enc sz) {I : Addr → Prop} {w : World} {xs : List α} {v : Value} (h : DR I w (.l sz (xs.map enc)) v) (hl : xs.length ≤ 9223372036854775807) :
    ∃ A c, v = .slice A xs.length c ∧ xs.length ≤ c ∧ Kd.C d w A xs.length xs := by
  cases h with
  | l sz ys a A c val hc hs hA hsp h hd =>
    refine ⟨A, c, by rw [List.length_map], by simpa using hc, rfl, hl, fun hn => ?_⟩
    have hne : xs.map enc ≠ [] := by cases xs with
      | nil => simp at hn
      | cons => simp
    refine ⟨a, hA hne, fun j x hj => ⟨vals x, by rw [hf.len, hf.size], hf.K w x, fun i u hu => ?_⟩⟩
    have h1 : (xs.map enc)[j]? = some (enc x) := by rw [List.getElem?_map, hj]; rfl
    have h2 : (enc x)[i]? = some (.v u) := by rw [hf.enc, List.getElem?_map, hu]; rfl
    obtain ⟨_, h3⟩ := h j i _ _ h1 h2
    have h4 := hd j i _ _ h1 h2
    rw [hf.size, h3]
    generalize val j i = q at h4
    cases h4 with
    | v x h => rfl
theorem rd_of {α : Type} {d : Kd α} {vals : α → List Value} {enc : α → List D} {sz : Nat} (hf : Flat d vals enc sz) {G : Gh} {I : Addr → Prop} {w : World} {xs : List α} {v : Value} (h : VR G I w (.ls sz (xs.map enc)) v) (hl : xs.length ≤ 9223372036854775807) :
    ∃ A c, v = .slice A xs.length c ∧ xs.length ≤ c ∧ Kd.C d w A xs.length xs := by
  cases h with
  | ls _ _ _ h => exact rd_dr hf h hl
theorem row_of {α : Type} {d : Kd α} {vals : α → List Value} {enc : α → List D} {sz : Nat} (hf : Flat d vals enc sz) {P : Program} (G : Gh) (I : Addr → Prop) {w : World} {e base : Nat} {ok : Nat → Prop} {v : Value} {xs : List α} (h : d.R e w base ok v xs) :
    CR P G I w (.row e sz (xs.map enc)) (some v) ∧ (∀ b, blkV (some v) = some b → base ≤ b ∧ ∃ cells, w.heap[b]? = some (.cells cells e (0, 0))) ∧ ∃ A c, v = .slice A xs.length c := by
  obtain ⟨_, inner, ho, hr⟩ := h
  have hsl := own_slice ho
  refine ⟨⟨hf.pos, hf.row, v, inner, rfl, ?_, fun i j r x hi hj => ?_⟩, fun b hb => ?_, hsl⟩
  · rw [List.length_map, ← hf.size]
    exact own_weaken ho (Nat.zero_le _)
  · rw [List.getElem?_map] at hi
    obtain ⟨p, hp, rfl⟩ := Option.map_eq_some_iff.1 hi
    have hc := hf.M _ _ _ _ _ (hr.2 i p hp)
    rw [hf.enc, List.getElem?_map] at hj
    obtain ⟨u, hu, rfl⟩ := Option.map_eq_some_iff.1 hj
    refine ⟨u, ?_, .v u (hf.one p u (List.mem_of_getElem? hu))⟩
    rw [← hc, List.getElem?_take, List.getElem?_drop, hf.size] at hu
    split at hu
    · exact hu
    · cases hu
  · have : v.ownBlock = some b := by
      obtain ⟨A, c, rfl⟩ := hsl
      cases A with
      | none => cases hb
      | some a => exact hb
    exact ⟨own_base ho b this, own_typed ho b this⟩
theorem gs_new {P : Program} {G : Gh} {I : Addr → Prop} {w w' : World} {Hr : List HC} {vals : List Value} (hr : HRel P G I w (lst []) (fun t => ([] : List HC).length ≤ t)) (hb : Below w.heap.size w w') (hl : vals.length = Hr.length)
    (hc : ∀ (i : Nat) (c : HC) (v : Value), Hr[i]? = some c → vals[i]? = some v → CR P (fun t => vals[t]?) I w' c (some v) ∧ ∀ b, blk c (some v) = some b → w.heap.size ≤ b)
    (hd : ∀ (i j : Nat) (c c' : HC) (v v' : Value) (b : Nat), i ≠ j → Hr[i]? = some c → vals[i]? = some v → Hr[j]? = some c' → vals[j]? = some v' → blk c (some v) = some b → blk c' (some v') ≠ some b) :
    GS P (cx0 G I w (lst [])) (fun t => vals[t]?) I w' (lst Hr) (fun t => Hr.length ≤ t) := by
  have hG : ∀ t, G t = none := fun t => (hr.dom t (Nat.zero_le _)).2
  have hcell : ∀ a, I a → w'.cell? a = w.cell? a := fun a ha => by
    obtain ⟨_, h2, _⟩ := hr.imm a ha
    exact hb.cell (World.block_lt_of_cell? w (a := a) (u := (w.cell? a).get h2) (by simp))
  have hcase : ∀ t, (lst Hr t = .dead ∧ vals[t]? = none) ∨ ∃ c v, Hr[t]? = some c ∧ vals[t]? = some v ∧ lst Hr t = c := fun t => by
    rcases Nat.lt_or_ge t Hr.length with h | h
    · have h1 : Hr[t]? = some Hr[t] := List.getElem?_eq_getElem h
      have h2 : vals[t]? = some (vals[t]'(by omega)) := List.getElem?_eq_getElem (by omega)
      exact .inr ⟨_, _, h1, h2, lst_get h1⟩
    · exact .inl ⟨lst_none h, List.getElem?_eq_none (by omega)⟩
  have hblk : ∀ t b, blk (lst Hr t) (vals[t]?) = some b → ∃ c v, Hr[t]? = some c ∧ vals[t]? = some v ∧ blk c (some v) = some b := fun t b h => by
    rcases hcase t with ⟨e, _⟩ | ⟨c, v, h1, h2, h3⟩
    · rw [e] at h; cases h
    · rw [h3, h2] at h; exact ⟨c, v, h1, h2, h⟩
  refine ⟨⟨fun t => ?_, fun t t' b hne h => ?_, fun a ha => ?_, fun t ht => ⟨lst_none ht, List.getElem?_eq_none (by omega)⟩⟩, ⟨hb.os, hb.tape, hb.output, hb.size, fun k hk => ?_, fun k hk => .inl hk, fun t b h => ?_, ⟨fun t v h => ?_, fun a ha => ⟨ha, hcell a ha⟩⟩, fun a ha => .inl ha⟩⟩
  · rcases hcase t with ⟨e, _⟩ | ⟨c, v, h1, h2, h3⟩
    · rw [e]; trivial
    · rw [h3]
      show CR P _ I w' c (vals[t]?)
      rw [h2]
      exact (hc t c v h1 h2).1
  · obtain ⟨c, v, h1, h2, h3⟩ := hblk t b h
    intro h'
    obtain ⟨c', v', h1', h2', h3'⟩ := hblk t' b h'
    exact hd t t' c c' v v' b hne h1 h2 h1' h2' h3 h3'
  · obtain ⟨a1, a2, _⟩ := hr.imm a ha
    refine ⟨a1, by rw [hcell a ha]; exact a2, fun t h => ?_⟩
    obtain ⟨c, v, h1, h2, h3⟩ := hblk t _ h
    have := (hc t c v h1 h2).2 _ h3
    have h5 := World.block_lt_of_cell? w (a := a) (u := (w.cell? a).get a2) (by simp)
    omega
  · exact hb.block k (Nat.lt_of_not_le fun h => hk (.inl h))
  · obtain ⟨c, v, h1, h2, h3⟩ := hblk t b h
    exact .inl ((hc t c v h1 h2).2 b h3)
  · have : G t = some v := h
    rw [hG] at this; cases this
def Known (P : Program) (f : FuncId) : Prop := ∃ fd, P.funcs[f]? = some fd ∧ (fd.name == "runtime.NumGoroutine") = false ∧ fd.body.isSome = true
theorem tri_sc {P : Program} {f : FuncId} {ags : List AV} {x : Value} (hf : Known P f) (hx : x.oneCell' = true)
    (h : ∀ G I w (vs : Array Value), vs.size = ags.length → (∀ (i : Nat) (y : AV), ags[i]? = some y → VR G I w y (vs.getD i undef)) → Calls P f vs w fun e w' => e = .returned x ∧ Below w.heap.size w w') : Tri P f ags [] (.sc x) [] := by
  refine ⟨hf, Nat.le_refl _, fun G I w vs hr hn hv => ?_⟩
  refine Calls.mono (h G I w vs hn hv) ?_
  rintro e w' ⟨rfl, hb⟩
  exact ⟨x, _, I, rfl, gs_new (vals := []) hr hb rfl (fun i c v h => by simp at h) (fun i j c c' v v' b _ h => by simp at h), .sc x hx⟩
theorem tri_row {α : Type} {d : Kd α} {vals : α → List Value} {enc : α → List D} {sz : Nat} (hF : Flat d vals enc sz) {P : Program} {f : FuncId} {ags : List AV} {e : TypeId} {xs : List α} (hf : Known P f)
    (h : ∀ G I w (vs : Array Value), vs.size = ags.length → (∀ (i : Nat) (y : AV), ags[i]? = some y → VR G I w y (vs.getD i undef)) → Calls P f vs w fun ex w' => ∃ v, ex = .returned v ∧ d.R e w' w.heap.size (fun _ => True) v xs ∧ Below w.heap.size w w') : Tri P f ags [] (.ow 0) [.row e sz (xs.map enc)] := by
  refine ⟨hf, Nat.zero_le _, fun G I w vs hr hn hv => ?_⟩
  refine Calls.mono (h G I w vs hn hv) ?_
  rintro ex w' ⟨v, rfl, hR, hb⟩
  have hro := fun (G : Gh) => row_of hF (P := P) G I hR
  refine ⟨v, fun t => [v][t]?, I, rfl, gs_new (vals := [v]) hr hb rfl (fun i c u h1 h2 => ?_) (fun i j c c' u u' b hne h1 h2 h3 h4 => ?_), ?_⟩
  · match i, h1, h2 with
    | 0, h1, h2 =>
      injection h1 with h1; injection h2 with h2; subst h1; subst h2
      exact ⟨(hro _).1, fun b hb => ((hro G).2.1 b hb).1⟩
    | i + 1, h1, h2 => simp at h1
  · match i, j, h1, h3 with
    | 0, 0, _, _ => exact absurd rfl hne
    | i + 1, _, h1, _ => simp at h1
    | 0, j + 1, _, h3 => simp at h3
  · obtain ⟨_, _, A, c, rfl⟩ := hro G
    exact .ow 0 A _ c rfl
theorem tri_two {α β : Type} {d : Kd α} {vals : α → List Value} {enc : α → List D} {sz : Nat} (hF : Flat d vals enc sz) {d' : Kd β} {vals' : β → List Value} {enc' : β → List D} {sz' : Nat} (hF' : Flat d' vals' enc' sz') {P : Program} {f : FuncId} {ags : List AV} {e e' : TypeId} (hne : e ≠ e') {xs : List α} {ys : List β} {q : Value} (hq : q.oneCell' = true) (hf : Known P f)
    (h : ∀ G I w (vs : Array Value), vs.size = ags.length → (∀ (i : Nat) (y : AV), ags[i]? = some y → VR G I w y (vs.getD i undef)) → Calls P f vs w fun ex w' => ∃ v v', ex = .returned (.tuple #[.agg #[v, v'], q]) ∧ d.R e w' w.heap.size (fun _ => True) v xs ∧ d'.R e' w' w.heap.size (fun _ => True) v' ys ∧ Below w.heap.size w w') :
    Tri P f ags [] (.tp [.ag [.ow 0, .ow 1], .sc q]) [.row e sz (xs.map enc), .row e' sz' (ys.map enc')] := by
  refine ⟨hf, Nat.zero_le _, fun G I w vs hr hn hv => ?_⟩
  refine Calls.mono (h G I w vs hn hv) ?_
  rintro ex w' ⟨v, v', rfl, hR, hR', hb⟩
  have hro := fun (G : Gh) => row_of hF (P := P) G I hR
  have hro' := fun (G : Gh) => row_of hF' (P := P) G I hR'
  have hap : ∀ b, blkV (some v) = some b → blkV (some v') ≠ some b := fun b h1 h2 => by
    obtain ⟨_, c1, h3⟩ := (hro G).2.1 b h1
    obtain ⟨_, c2, h4⟩ := (hro' G).2.1 b h2
    rw [h3] at h4
    injection h4 with h4
    injection h4 with _ h4
    exact hne h4
  refine ⟨_, fun t => [v, v'][t]?, I, rfl, gs_new (vals := [v, v']) hr hb rfl (fun i c u h1 h2 => ?_) (fun i j c c' u u' b hij h1 h2 h3 h4 h5 => ?_), ?_⟩
  · match i, h1, h2 with
    | 0, h1, h2 =>
      injection h1 with h1; injection h2 with h2; subst h1; subst h2
      exact ⟨(hro _).1, fun b hb => ((hro G).2.1 b hb).1⟩
    | 1, h1, h2 =>
      injection h1 with h1; injection h2 with h2; subst h1; subst h2
      exact ⟨(hro' _).1, fun b hb => ((hro' G).2.1 b hb).1⟩
    | i + 2, h1, h2 => simp at h1
  · match i, j, h1, h2, h3, h4 with
    | 0, 0, _, _, _, _ => exact absurd rfl hij
    | 1, 1, _, _, _, _ => exact absurd rfl hij
    | 0, 1, h1, h2, h3, h4 =>
      injection h1 with h1; injection h2 with h2; injection h3 with h3; injection h4 with h4; subst h1; subst h2; subst h3; subst h4
      exact hap b h5
    | 1, 0, h1, h2, h3, h4 =>
      injection h1 with h1; injection h2 with h2; injection h3 with h3; injection h4 with h4; subst h1; subst h2; subst h3; subst h4
      exact fun h6 => hap b h6 h5
    | i + 2, _, h1, _, _, _ => simp at h1
    | 0, j + 2, _, _, h3, _ => simp at h3
    | 1, j + 2, _, _, h3, _ => simp at h3
  · obtain ⟨_, _, A, c, rfl⟩ := hro G
    obtain ⟨_, _, A', c', rfl⟩ := hro' G
    refine .tp _ _ rfl (fun i y hi => ?_)
    match i, hi with
    | 0, hi =>
      injection hi with hi; subst hi
      refine .ag _ _ rfl (by intro x hx; rcases List.mem_cons.1 hx with rfl | hx; · rfl
                             rcases List.mem_singleton.1 hx with rfl; rfl) (fun i y hi => ?_)
      match i, hi with
      | 0, hi => injection hi with hi; subst hi; exact .ow 0 A _ c rfl
      | 1, hi => injection hi with hi; subst hi; exact .ow 1 A' _ c' rfl
      | i + 2, hi => simp at hi
    | 1, hi => injection hi with hi; subst hi; exact .sc q hq
    | i + 2, hi => simp at hi
def valsN (n : Nd) : List Value := [.int .i64 n.f0, .int .i64 n.f1, .int .i64 n.f2, .int .i64 n.f3]
def valsL (n : Lk) : List Value := [.int .i64 n.f0, .int .i64 n.f1, .int .i64 n.f2, .int .i64 n.f3]
theorem flatN : Flat Go.Proofs.Ytcbpghpfdjfddaa.Q.k43 valsN encN 4 := ⟨rfl, by omega, fun w x => Go.Proofs.Ytcbpghpfdjfddaa.Q.k43_mk w x, fun _ _ _ _ _ h => Go.Proofs.Ytcbpghpfdjfddaa.Q.k43_openM h, fun _ => rfl, fun _ => rfl, fun x u hu => by simp [valsN] at hu; rcases hu with rfl | rfl | rfl | rfl <;> rfl⟩
theorem flatL : Flat Go.Proofs.Ytcbpghpfdjfddaa.Q.k45 valsL encL 4 := ⟨rfl, by omega, fun w x => Go.Proofs.Ytcbpghpfdjfddaa.Q.k45_mk w x, fun _ _ _ _ _ h => Go.Proofs.Ytcbpghpfdjfddaa.Q.k45_openM h, fun _ => rfl, fun _ => rfl, fun x u hu => by simp [valsL] at hu; rcases hu with rfl | rfl | rfl | rfl <;> rfl⟩
def encI (n : Int) : List D := [dI n]
attribute [go_sem] encI
theorem flatI : Flat (Kd.int .i64) (fun n => [.int .i64 n]) encI 1 := ⟨rfl, by omega, fun w x => rfl, fun _ _ _ _ _ h => h, fun _ => rfl, fun _ => rfl, fun x u hu => by simp at hu; subst hu; rfl⟩
end Go.Proofs.YtcbpghpfdjfddaaE
-- Declarations of the text that this claim uses (slim.py, a program of this session).
namespace Go.Proofs.YtcbpghpfdjfddaaG
open Go Go.RowKit Go.Proofs.YtcbpghpfdjfddaaMp Go.Proofs.Ytcbpghpfdjfddaa.Q Go.Proofs.YtcbpghpfdjfddaaW.PrintWords Go.Proofs.YtcbpghpfdjfddaaW.PrintLast Go.Proofs.YtcbpghpfdjfddaaW.PrintMore
set_option linter.unusedVariables false
set_option linter.unusedSimpArgs false
def eqL (x y : Lk) : Bool := x.f0 == y.f0 && (x.f1 == y.f1 && (x.f2 == y.f2 && (x.f3 == y.f3)))
theorem eqL_run (d : Nat) (w : World) (x y : Lk) :
    (Op.equalIn (d + 2) 45 (.agg #[.int .i64 x.f0, .int .i64 x.f1, .int .i64 x.f2, .int .i64 x.f3]) (.agg #[.int .i64 y.f0, .int .i64 y.f1, .int .i64 y.f2, .int .i64 y.f3])).run Try.prog w = .ok (eqL x y) w := by
  refine eqA_of Try.underlying45 (by kernel_rfl) ?_
  unfold eqL
  refine eqf_cons (by rfl) (by go_simp; rfl) (by go_simp; rfl) (by go_simp) ?_
  refine eqf_cons (by rfl) (by go_simp; rfl) (by go_simp; rfl) (by go_simp) ?_
  refine eqf_cons (by rfl) (by go_simp; rfl) (by go_simp; rfl) (by go_simp) ?_
  exact eqf_last (by rfl) (by go_simp; rfl) (by go_simp; rfl) (by go_simp)
set_option maxHeartbeats 4000000 in
set_option maxRecDepth 100000 in
theorem has_calls (A : Option Addr) (c : Nat) (ns : List Nd) (A2 : Option Addr) (c2 : Nat) (ls : List Lk) (x : Lk) (w : World) (hr2 : Rd kL w A2 c2 ls) (hn : ls.length ≤ 1000000) :
    Calls Try.prog 64 #[.agg #[.slice A ns.length c, .slice A2 ls.length c2], .agg #[.int .i64 x.f0, .int .i64 x.f1, .int .i64 x.f2, .int .i64 x.f3]] w fun e w' => e = .returned (.bool (ls.any fun k => eqL k x)) ∧ Below w.heap.size w w' := by
  have HR2 := Lib.hid hr2
  have HN := Lib.hid hn
  obtain ⟨R, hR⟩ : ∃ R, (ls.any fun k => eqL k x) = R := ⟨_, rfl⟩
  rw [hR]
  have HRR := Lib.hid hR
  clear hr2 hR hn
  go_enter Try.func64, Try.ntmps64
  go_wp2
  generalize hW : World.alloc (World.alloc w _) _ = W
  have hB : Aside0 (Below w.heap.size w W) := ⟨by rw [← hW]; exact (bel1 w _).alloc (by simp) _⟩
  have hX : Aside0 (W.heap[w.heap.size + 1]? = some (.cells #[.int .i64 x.f0, .int .i64 x.f1, .int .i64 x.f2, .int .i64 x.f3] 45 (0, 0))) := ⟨by rw [← hW]; have := alloc_at (World.alloc w (.cells #[.slice A ns.length c, .slice A2 ls.length c2] 25 (0, 0))) (.cells #[.int .i64 x.f0, .int .i64 x.f1, .int .i64 x.f2, .int .i64 x.f3] 45 (0, 0)); simpa using this⟩
  clear hW
  generalize hgx : w.heap.size + 1 = gx at *
  clear hgx
  go_loopw [10] (fun t wr => ∃ i : Nat, i ≤ ls.length ∧ t = .int .i64 i ∧ Aside0 (((ls.drop i).any fun k => eqL k x) = R) ∧ Aside0 (Below w.heap.size w wr) ∧ Aside0 (wr.heap[gx]? = some (.cells #[.int .i64 x.f0, .int .i64 x.f1, .int .i64 x.f2, .int .i64 x.f3] 45 (0, 0)))) (fun t _ => ls.length - (intOf t).toNat)
  case atStart => exact ⟨0, by omega, rfl, ⟨HRR.out⟩, hB, hX⟩
  case round =>
    clear hB hX W
    obtain ⟨i, hi, rfl, hC, hB, hX⟩ := hrel
    by_cases hil : i < ls.length
    · obtain ⟨ad, rfl, h0, h1, h2, h3⟩ := cells_link (HR2.out.below hB.out).1 i hil
      have hC2 := hC.out
      rw [List.drop_eq_getElem_cons hil, List.any_cons] at hC2
      have HC2 := Lib.hid hC2
      clear hC hC2
      generalize ls[i] = z at h0 h1 h2 h3 HC2
      have q0 : (0 : Int) ≤ (i : Int) := by omega
      have q1 : (i : Int) < (ls.length : Int) := by omega
      have q2 : wrap64 ((i : Int) + 1) = ((i + 1 : Nat) : Int) := by have := HN.out; unfold wrap64; omega
      have HBz := Lib.hid (hB.out.alloc hB.out.size (.cells #[.int .i64 z.f0, .int .i64 z.f1, .int .i64 z.f2, .int .i64 z.f3] 45 (0, 0)))
      have HXz := Lib.hid (hep hX.out (bel1 wr (.cells #[.int .i64 z.f0, .int .i64 z.f1, .int .i64 z.f2, .int .i64 z.f3] 45 (0, 0))))
      have x0 := cel0 hX.out 0 _ rfl
      have x1 := cel0 hX.out 1 _ rfl
      have x2 := cel0 hX.out 2 _ rfl
      have x3 := cel0 hX.out 3 _ rfl
      have lx := hlt hX.out
      have heq := fun (d : Nat) (W : World) => eqL_run d W z x
      rcases hz : eqL z x with _ | _
      · rw [hz] at heq HC2
        clear hz
        go_wp2
        go_roundw
        case measure => first | (rw [q2]; exact lower hil) | (simp only [intOf]; omega)
        case rel => exact ⟨i + 1, hil, by first | rw [q2] | simp, ⟨by have h := HC2.out; rw [Bool.false_or] at h; exact h⟩, ⟨HBz.out⟩, ⟨HXz.out⟩⟩
      · rw [hz] at heq HC2
        clear hz
        go_wp2
        go_ret
        exact ⟨by have h := HC2.out; rw [Bool.true_or] at h; rw [← h]; rfl, HBz.out⟩
    · obtain rfl : i = ls.length := by omega
      have hR0 : false = R := by have h := hC.out; rw [List.drop_length] at h; exact h
      have HR0 := Lib.hid hR0
      clear hR0
      go_wp2
      go_ret
      exact ⟨by rw [← HR0.out]; rfl, hB.out⟩
end Go.Proofs.YtcbpghpfdjfddaaG
-- Declarations of the text that this claim uses (slim.py, a program of this session).
namespace Go.Proofs.YtcbpghpfdjfddaaE
open Go Go.RowKit Go.Proofs.YtcbpghpfdjfddaaW.PrintWords Go.Proofs.YtcbpghpfdjfddaaW.PrintLast Go.Proofs.YtcbpghpfdjfddaaW.PrintMore
set_option linter.unusedVariables false
set_option linter.unusedSimpArgs false
theorem arg1 {vs : Array Value} (h : vs.size = 1) : ∃ a, vs = #[a] := by
  obtain ⟨l⟩ := vs
  match l, h with
  | [a], _ => exact ⟨a, rfl⟩
theorem arg2 {vs : Array Value} (h : vs.size = 2) : ∃ a b, vs = #[a, b] := by
  obtain ⟨l⟩ := vs
  match l, h with
  | [a, b], _ => exact ⟨a, b, rfl⟩
theorem arg3 {vs : Array Value} (h : vs.size = 3) : ∃ a b c, vs = #[a, b, c] := by
  obtain ⟨l⟩ := vs
  match l, h with
  | [a, b, c], _ => exact ⟨a, b, c, rfl⟩
theorem arg4 {vs : Array Value} (h : vs.size = 4) : ∃ a b c d, vs = #[a, b, c, d] := by
  obtain ⟨l⟩ := vs
  match l, h with
  | [a, b, c, d], _ => exact ⟨a, b, c, d, rfl⟩
theorem VR.sc_eq {G : Gh} {I : Addr → Prop} {w : World} {x v : Value} (h : VR G I w (.sc x) v) : v = x := by
  cases h with
  | sc x h => rfl
def agN (n : Nd) : AV := .ag [.sc (.int .i64 n.f0), .sc (.int .i64 n.f1), .sc (.int .i64 n.f2), .sc (.int .i64 n.f3)]
def agL (n : Lk) : AV := .ag [.sc (.int .i64 n.f0), .sc (.int .i64 n.f1), .sc (.int .i64 n.f2), .sc (.int .i64 n.f3)]
def gV (ns : List Nd) (ls : List Lk) : AV := .ag [.ls 4 (ns.map encN), .ls 4 (ls.map encL)]
attribute [go_sem] agN agL gV
theorem VR.ag4 {G : Gh} {I : Addr → Prop} {w : World} {a b c d : Int} {v : Value} (h : VR G I w (.ag [.sc (.int .i64 a), .sc (.int .i64 b), .sc (.int .i64 c), .sc (.int .i64 d)]) v) : v = .agg #[.int .i64 a, .int .i64 b, .int .i64 c, .int .i64 d] := by
  cases h with
  | ag cs vs hn hl h =>
    obtain ⟨p, q, r, s, rfl⟩ := arg4 hn
    have h0 := (h 0 _ rfl).sc_eq
    have h1 := (h 1 _ rfl).sc_eq
    have h2 := (h 2 _ rfl).sc_eq
    have h3 := (h 3 _ rfl).sc_eq
    simp at h0 h1 h2 h3
    rw [h0, h1, h2, h3]
abbrev RdN (w : World) (A : Option Addr) (c : Nat) (ns : List Nd) : Prop := Go.Proofs.YtcbpghpfdjfddaaG.Rd Go.Proofs.Ytcbpghpfdjfddaa.Q.k43 w A c ns
abbrev RdL (w : World) (A : Option Addr) (c : Nat) (ns : List Lk) : Prop := Go.Proofs.YtcbpghpfdjfddaaG.Rd Go.Proofs.Ytcbpghpfdjfddaa.Q.k45 w A c ns
theorem VR.gr {G : Gh} {I : Addr → Prop} {w : World} {ns : List Nd} {ls : List Lk} {v : Value} (h : VR G I w (gV ns ls) v) (h1 : ns.length ≤ 9223372036854775807) (h2 : ls.length ≤ 9223372036854775807) :
    ∃ A c A2 c2, v = .agg #[.slice A ns.length c, .slice A2 ls.length c2] ∧ RdN w A c ns ∧ RdL w A2 c2 ls := by
  cases h with
  | ag cs vs hn hl h =>
    obtain ⟨p, q, rfl⟩ := arg2 hn
    obtain ⟨A, c, e1, e2, e3⟩ := rd_of flatN (h 0 _ rfl) h1
    obtain ⟨A2, c2, f1, f2, f3⟩ := rd_of flatL (h 1 _ rfl) h2
    simp at e1 f1
    subst e1; subst f1
    exact ⟨A, c, A2, c2, rfl, ⟨e3, e2⟩, ⟨f3, f2⟩⟩
abbrev wf := Go.Proofs.YtcbpghpfdjfddaaG.wf
def WfG (ns : List Nd) (ls : List Lk) : Prop := (∀ n ∈ ns, wf n.f0) ∧ (∀ l ∈ ls, wf l.f0 ∧ wf l.f2) ∧ ns.length ≤ 1000000 ∧ ls.length ≤ 1000000
theorem t_valid (ns : List Nd) (ls : List Lk) (hw : WfG ns ls) : Tri Try.prog 14 [gV ns ls] [] (.sc (.bool (Go.Proofs.YtcbpghpfdjfddaaG.validF ns ls))) [] := by
  refine tri_sc ⟨_, rfl, rfl, rfl⟩ rfl fun G I w vs hn hv => ?_
  obtain ⟨a, rfl⟩ := arg1 hn
  obtain ⟨A, c, A2, c2, e, h1, h2⟩ := VR.gr (hv 0 _ rfl) (Nat.le_trans hw.2.2.1 (by omega)) (Nat.le_trans hw.2.2.2 (by omega))
  simp at e; subst e
  exact Go.Proofs.YtcbpghpfdjfddaaG.valid_calls A c ns A2 c2 ls w h1 h2 hw.1 hw.2.1
theorem t_order_ (ns : List Nd) (ls : List Lk) (hw : WfG ns ls) (hn : ns.length ≤ 1000) (hl : ls.length ≤ 1000) : Tri Try.prog 37 [gV ns ls] [] (.ls 1 ((Go.Proofs.YtcbpghpfdjfddaaG.ordF ns ls).map encI)) [] := by
  refine Tri.frz1 (tri_row (e := 3) flatI ⟨_, rfl, rfl, rfl⟩ fun G I w vs hn' hv => ?_)
  obtain ⟨a, rfl⟩ := arg1 hn'
  obtain ⟨A, c, A2, c2, e, h1, h2⟩ := VR.gr (hv 0 _ rfl) (Nat.le_trans hw.2.2.1 (by omega)) (Nat.le_trans hw.2.2.2 (by omega))
  simp at e; subst e
  exact Go.Proofs.YtcbpghpfdjfddaaG.order_calls A c ns A2 c2 ls w h1 h2 hn hl hw.1 (fun l h => (hw.2.1 l h).2)
theorem t_rorder (ns : List Nd) (ls : List Lk) (hw : WfG ns ls) : Tri Try.prog 38 [gV ns ls] [] (.ls 1 ((Go.Proofs.YtcbpghpfdjfddaaG.rordF ns ls).map encI)) [] := by
  refine Tri.frz1 (tri_row (e := 3) flatI ⟨_, rfl, rfl, rfl⟩ fun G I w vs hn' hv => ?_)
  obtain ⟨a, rfl⟩ := arg1 hn'
  obtain ⟨A, c, A2, c2, e, h1, h2⟩ := VR.gr (hv 0 _ rfl) (Nat.le_trans hw.2.2.1 (by omega)) (Nat.le_trans hw.2.2.2 (by omega))
  simp at e; subst e
  exact Go.Proofs.YtcbpghpfdjfddaaG.rorder_calls A c ns A2 c2 ls w h1 h2 hw.2.2.2 hw.2.2.1
theorem t_reach (ns : List Nd) (ls : List Lk) (id : Int) (hw : WfG ns ls) (hid : wf id) : Tri Try.prog 17 [gV ns ls, .sc (.int .i64 id)] [] (.ls 1 ((Go.Proofs.YtcbpghpfdjfddaaG.reachF ns ls id).map encI)) [] := by
  refine Tri.frz1 (tri_row (e := 3) flatI ⟨_, rfl, rfl, rfl⟩ fun G I w vs hn' hv => ?_)
  obtain ⟨a, b, rfl⟩ := arg2 hn'
  obtain ⟨A, c, A2, c2, e, h1, h2⟩ := VR.gr (hv 0 _ rfl) (Nat.le_trans hw.2.2.1 (by omega)) (Nat.le_trans hw.2.2.2 (by omega))
  have e1 := (hv 1 _ rfl).sc_eq
  simp at e e1; subst e; subst e1
  exact Go.Proofs.YtcbpghpfdjfddaaG.reach_calls A c ns A2 c2 ls id w h1 h2 hw.1 hw.2.1 hid
theorem t_connect (ns : List Nd) (ls : List Lk) (x : Lk) (hw : WfG ns ls) (h0 : wf x.f0) (h2 : wf x.f2) : Tri Try.prog 24 [gV ns ls, agL x] [] (.tp [gV (Go.Proofs.YtcbpghpfdjfddaaG.connF ns ls x).1 (Go.Proofs.YtcbpghpfdjfddaaG.connF ns ls x).2.1, .sc (.int .i64 (Go.Proofs.YtcbpghpfdjfddaaG.connF ns ls x).2.2)]) [] := by
  refine Tri.frz2 (tri_two (e := 43) (e' := 45) flatN flatL (by decide) rfl ⟨_, rfl, rfl, rfl⟩ fun G I w vs hn' hv => ?_)
  obtain ⟨a, b, rfl⟩ := arg2 hn'
  obtain ⟨A, c, A2, c2, e, h1, h3⟩ := VR.gr (hv 0 _ rfl) (Nat.le_trans hw.2.2.1 (by omega)) (Nat.le_trans hw.2.2.2 (by omega))
  have e1 := VR.ag4 (hv 1 _ rfl)
  simp at e e1; subst e; subst e1
  exact Go.Proofs.YtcbpghpfdjfddaaG.connect_calls A c ns A2 c2 ls x w h1 h3 hw.1 hw.2.1 h0 h2
theorem t_fits (n : Nd) : Tri Try.prog 44 [agN n] [] (.sc (.bool (Go.Proofs.YtcbpghpfdjfddaaG.fineB n))) [] := by
  refine tri_sc ⟨_, rfl, rfl, rfl⟩ rfl fun G I w vs hn hv => ?_
  obtain ⟨a, rfl⟩ := arg1 hn
  have e := VR.ag4 (hv 0 _ rfl)
  simp at e; subst e
  exact Go.Proofs.YtcbpghpfdjfddaaG.fits_calls n w
theorem t_less (a b : Lk) : Tri Try.prog 46 [agL a, agL b] [] (.sc (.bool (decide (Go.Proofs.YtcbpghpfdjfddaaG.cmpL a b < 0)))) [] := by
  refine tri_sc ⟨_, rfl, rfl, rfl⟩ rfl fun G I w vs hn hv => ?_
  obtain ⟨p, q, rfl⟩ := arg2 hn
  have e := VR.ag4 (hv 0 _ rfl)
  have e1 := VR.ag4 (hv 1 _ rfl)
  simp at e e1; subst e; subst e1
  exact Go.Proofs.YtcbpghpfdjfddaaG.less_calls a b w
theorem t_ports (ns : List Nd) (ls : List Lk) (x : Lk) (hw : WfG ns ls) : Tri Try.prog 45 [gV ns ls, agL x] [] (.sc (.bool (Go.Proofs.YtcbpghpfdjfddaaG.portsB ns x))) [] := by
  refine tri_sc ⟨_, rfl, rfl, rfl⟩ rfl fun G I w vs hn hv => ?_
  obtain ⟨a, b, rfl⟩ := arg2 hn
  obtain ⟨A, c, A2, c2, e, h1, h2⟩ := VR.gr (hv 0 _ rfl) (Nat.le_trans hw.2.2.1 (by omega)) (Nat.le_trans hw.2.2.2 (by omega))
  have e1 := VR.ag4 (hv 1 _ rfl)
  simp at e e1; subst e; subst e1
  exact Go.Proofs.YtcbpghpfdjfddaaG.ports_calls A c ns A2 c2 ls x w h1 h2 hw.2.2.1
theorem t_has (ns : List Nd) (ls : List Lk) (x : Lk) (hw : WfG ns ls) : Tri Try.prog 64 [gV ns ls, agL x] [] (.sc (.bool (ls.any fun k => Go.Proofs.YtcbpghpfdjfddaaG.eqL k x))) [] := by
  refine tri_sc ⟨_, rfl, rfl, rfl⟩ rfl fun G I w vs hn hv => ?_
  obtain ⟨a, b, rfl⟩ := arg2 hn
  obtain ⟨A, c, A2, c2, e, h1, h2⟩ := VR.gr (hv 0 _ rfl) (Nat.le_trans hw.2.2.1 (by omega)) (Nat.le_trans hw.2.2.2 (by omega))
  have e1 := VR.ag4 (hv 1 _ rfl)
  simp at e e1; subst e; subst e1
  exact Go.Proofs.YtcbpghpfdjfddaaG.has_calls A c ns A2 c2 ls x w h2 hw.2.2.2
theorem t_crowded (ns : List Nd) (ls : List Lk) (x : Lk) (os : List Lk) (hw : WfG ns ls) (ho : os.length ≤ 1000000) : Tri Try.prog 47 [gV ns ls, agL x, .ls 4 (os.map encL)] [] (.sc (.bool (os.any fun k => Go.Proofs.YtcbpghpfdjfddaaG.crB ns k x))) [] := by
  refine tri_sc ⟨_, rfl, rfl, rfl⟩ rfl fun G I w vs hn hv => ?_
  obtain ⟨a, b, d, rfl⟩ := arg3 hn
  obtain ⟨A, c, A2, c2, e, h1, h2⟩ := VR.gr (hv 0 _ rfl) (Nat.le_trans hw.2.2.1 (by omega)) (Nat.le_trans hw.2.2.2 (by omega))
  have e1 := VR.ag4 (hv 1 _ rfl)
  obtain ⟨A3, c3, e2, h3, h4⟩ := rd_of flatL (hv 2 _ rfl) (Nat.le_trans ho (by omega))
  simp at e e1 e2; subst e; subst e1; subst e2
  exact Go.Proofs.YtcbpghpfdjfddaaG.crowd_calls A c ns A2 c2 ls x A3 c3 os w h1 h2 ⟨h4, h3⟩ hw.2.2.1 ho
theorem t_rnode (ns : List Nd) (ls : List Lk) (id : Int) (hw : WfG ns ls) : Tri Try.prog 59 [gV ns ls, .sc (.int .i64 id)] [] (.tp [agN (Go.Proofs.YtcbpghpfdjfddaaG.rn ns id), .sc (.bool (Go.Proofs.YtcbpghpfdjfddaaG.rh ns id))]) [] := by
  refine ⟨⟨_, rfl, rfl, rfl⟩, Nat.le_refl _, fun G I w vs hr hn hv => ?_⟩
  obtain ⟨a, b, rfl⟩ := arg2 hn
  obtain ⟨A, c, A2, c2, e, h1, h2⟩ := VR.gr (hv 0 _ rfl) (Nat.le_trans hw.2.2.1 (by omega)) (Nat.le_trans hw.2.2.2 (by omega))
  have e1 := (hv 1 _ rfl).sc_eq
  simp at e e1; subst e; subst e1
  refine Calls.mono (Go.Proofs.YtcbpghpfdjfddaaG.rnode_calls A c ns A2 c2 ls id w h1 h2 hw.2.2.1) ?_
  rintro e w' ⟨rfl, hb⟩
  refine ⟨_, _, I, rfl, gs_new (vals := []) hr hb rfl (fun i c v h => by simp at h) (fun i j c c' v v' b _ h => by simp at h), .tp _ _ rfl (fun i y hi => ?_)⟩
  match i, hi with
  | 0, hi =>
    injection hi with hi; subst hi
    refine .ag _ _ rfl (by intro x hx; simp at hx; rcases hx with rfl | rfl | rfl | rfl <;> rfl) (fun i y hi => ?_)
    match i, hi with
    | 0, hi => injection hi with hi; subst hi; exact .sc _ rfl
    | 1, hi => injection hi with hi; subst hi; exact .sc _ rfl
    | 2, hi => injection hi with hi; subst hi; exact .sc _ rfl
    | 3, hi => injection hi with hi; subst hi; exact .sc _ rfl
    | i + 4, hi => simp at hi
  | 1, hi => injection hi with hi; subst hi; exact .sc _ rfl
  | i + 2, hi => simp at hi
end Go.Proofs.YtcbpghpfdjfddaaE
-- Declarations of the printer's words that this claim uses (slim.py, a program of this session).
namespace Go.Proofs.YtcbpghpfdjfddaaE
open Go Go.RowKit Go.Proofs.YtcbpghpfdjfddaaG
set_option linter.unusedVariables false
set_option linter.unusedSimpArgs false
theorem cs0 {P : Program} {g : FuncId} {ags : List AV} {all : List AV} {h : Nat → HC} {N : Nat} {r : AV} (ht : Tri P g ags [] r []) (he : AV.renL (idf [] N) ags = all) (hl : AV.ltL 0 ags = true) : CallSide P g all h N ags [] [] r [] :=
  ⟨he, rfl, List.nodup_nil, fun t ht => (by cases ht), rfl, hl, rfl, ht⟩
theorem drop_at {α : Type} {xs : List α} {i : Nat} {x : α} (h : xs[i]? = some x) : xs.drop i = x :: xs.drop (i + 1) := by
  obtain ⟨hl, h⟩ := List.getElem?_eq_some_iff.1 h
  rw [List.drop_eq_getElem_cons hl, h]
theorem take_at {α : Type} {xs : List α} {i : Nat} {x : α} (h : xs[i]? = some x) : xs.take (i + 1) = xs.take i ++ [x] := by
  rw [List.take_add_one, h]; rfl
theorem prv_succ {ns : List Nd} {i : Nat} {x : Nd} (h : ns[i]? = some x) : prv ns (i + 1) = some x := by
  unfold prv
  rw [if_neg (by omega)]
  exact h
theorem prv_zero (ns : List Nd) {i : Nat} (h : i = 0) (x : Nd) : above (prv ns i) x = true := by subst h; rfl
theorem prv_pos {ns : List Nd} {i : Nat} {x y : Nd} (h : ¬ i = 0) (hy : ns[i - 1]? = some y) : above (prv ns i) x = decide (y.f0 < x.f0) := by
  unfold prv
  rw [if_neg h, hy]; rfl
theorem last_zero (ls : List Lk) {i : Nat} (h : i = 0) (x : Lk) : after_ (ls.take i).getLast? x = true := by subst h; rfl
theorem last_pos {ls : List Lk} {i : Nat} {x y : Lk} (h : ¬ i = 0) (hy : ls[i - 1]? = some y) : after_ (ls.take i).getLast? x = decide (cmpL y x < 0) := by
  have : i = i - 1 + 1 := by omega
  rw [this, take_at hy, List.getLast?_concat]; rfl
theorem way1 {ns : List Nd} {i : Nat} (hi : i < ns.length) (x : Nd) : fineB x = false ∨ (fineB x = true ∧ ∃ y, ¬ i = 0 ∧ ns[i - 1]? = some y) ∨ (fineB x = true ∧ i = 0) := by
  cases fineB x
  · exact .inl rfl
  · by_cases h : i = 0
    · exact .inr (.inr ⟨rfl, h⟩)
    · exact .inr (.inl ⟨rfl, _, h, List.getElem?_eq_getElem (by omega)⟩)
theorem way2 (ns : List Nd) {ls : List Lk} {i : Nat} (hi : i < ls.length) (x : Lk) : (portsB ns x = true ∧ ∃ y, ¬ i = 0 ∧ ls[i - 1]? = some y ∧ decide (cmpL y x < 0) = false) ∨ (portsB ns x = true ∧ ∃ y, ¬ i = 0 ∧ ls[i - 1]? = some y ∧ decide (cmpL y x < 0) = true) ∨ (portsB ns x = true ∧ i = 0) ∨ portsB ns x = false := by
  cases portsB ns x
  · exact .inr (.inr (.inr rfl))
  · by_cases h : i = 0
    · exact .inr (.inr (.inl ⟨rfl, h⟩))
    · have hy : ls[i - 1]? = some ls[i - 1] := List.getElem?_eq_getElem (by omega)
      cases hc : decide (cmpL ls[i - 1] x < 0)
      · exact .inl ⟨rfl, _, h, hy, hc⟩
      · exact .inr (.inl ⟨rfl, _, h, hy, hc⟩)
theorem le_mx {α : Type} {xs : List α} {i : Nat} (h : i < xs.length) (hx : xs.length ≤ 1000000) : i < 9223372036854775807 := by omega
theorem wrap_pred {k : Nat} (h : k < 9223372036854775807) (h0 : ¬ k = 0) : IntKind.i64.wrap ((k : Int) - 1) = ((k - 1 : Nat) : Int) := by
  rw [wrap_i64 (by omega) (by omega)]; omega
set_option maxHeartbeats 4000000 in
theorem t_rvalid (ns : List Nd) (ls : List Lk) (hw : WfG ns ls) : Tri Try.prog 15 [gV ns ls] [] (.sc (.bool (validF ns ls))) [] := by
  refine tri_of (n := 89) Γ_ok Try.func15 rfl rfl rfl (by simp only [go_sem, Nat.reduceLeDiff]) rfl (by simp only [go_sem, Nat.reduceLeDiff]) ?_
  refine awp_seq_k fun K1 hK1 => ?_
  refine reg Γ_ok [1] [] _ rfl fun K hK => ?_
  simp only [go_sem, Int.reduceToNat, ↓reduceIte, Nat.reduceEqDiff, Nat.reduceLT, Nat.reduceAdd, Nat.reduceLeDiff, reduceCtorEq]
  refine hK _ ?_
  refine hK1 _ ?_
  refine awp_seq_k fun K2 hK2 => ?_
  refine awp_seq_k fun K3 hK3 => ?_
  by_cases h64 : ns.length ≤ 64
  · refine reg Γ_ok [1, 16] [(3, .b false)] [some 7, some 8, some 9, some 10, some 11, some 12, some 13, some 14, some 15, some 16] rfl fun K hK => ?_
    simp only [go_sem, Int.reduceToNat, ↓reduceIte, Nat.reduceEqDiff, Nat.reduceLT, Nat.reduceAdd, Nat.reduceLeDiff, reduceCtorEq]
    refine ⟨by simp; omega, hK _ ?_⟩
    refine hK3 _ ?_
    refine awp_dec rfl (fun e => ?_) (fun e => ?_)
    · refine awp_seq_k fun K4 hK4 => ?_
      refine reg Γ_ok [2] [] _ rfl fun K hK => ?_
      simp only [go_sem, Int.reduceToNat, ↓reduceIte, Nat.reduceEqDiff, Nat.reduceLT, Nat.reduceAdd, Nat.reduceLeDiff, reduceCtorEq]
      refine hK _ ?_
      refine hK4 _ ?_
      refine awp_ret ?_
      exact fin_b (by unfold validF; rw [decide_eq_false (by omega)]; rfl) (.inr rfl) rfl
    · refine awp_skip ?_
      refine hK2 _ ?_
      refine awp_seq_k fun K5 hK5 => ?_
      refine awp_seq_k fun K6 hK6 => ?_
      refine reg Γ_ok [1, 18, 19, 20] [] _ rfl fun K hK => ?_
      simp only [go_sem, Int.reduceToNat, ↓reduceIte, Nat.reduceEqDiff, Nat.reduceLT, Nat.reduceAdd, Nat.reduceLeDiff, reduceCtorEq]
      refine hK _ ?_
      refine hK6 _ ?_
      refine awp_block ?_
      refine awp_loop (fun m σ => ∃ i : Nat, i ≤ ns.length ∧ m = ns.length - i ∧ nokR (prv ns i) (ns.drop i) = nokR none ns ∧ σ = ⟨[(1, .pt 0 0), (18, .ls 4 (ns.map encN)), (19, .sc (.int .i64 ns.length)), (20, .sc (.int .i64 (i : Nat)))], [(0, .bx [.ls 4 (ns.map encN), .ls 4 (ls.map encL)])], 1⟩) ns.length ⟨0, by omega, by omega, rfl, rfl⟩ ?_
      rintro m σ ⟨i, hi, rfl, hz, rfl⟩
      refine awp_seq_k fun K7 hK7 => ?_
      refine reg Γ_ok [1, 18, 19, 20, 21] [] _ rfl fun K hK => ?_
      simp only [go_sem, Int.reduceToNat, ↓reduceIte, Nat.reduceEqDiff, Nat.reduceLT, Nat.reduceAdd, Nat.reduceLeDiff, reduceCtorEq]
      refine hK _ ?_
      refine hK7 _ ?_
      refine awp_seq_k fun K8 hK8 => ?_
      refine awp_dec rfl (fun e => ?_) (fun e => ?_)
      · obtain ⟨x, hx⟩ : ∃ x, ns[i]? = some x := ⟨_, List.getElem?_eq_getElem (by omega)⟩
        rw [drop_at hx, nok_cons] at hz
        refine awp_skip ?_
        refine hK8 _ ?_
        refine awp_seq_k fun K9 hK9 => ?_
        refine awp_block ?_
        refine awp_seq_k fun K10 hK10 => ?_
        refine reg Γ_ok [1, 3, 4, 18, 19, 20] [(1, .row (encN x))] _ rfl fun K hK => ?_
        simp only [go_sem, Int.reduceToNat, ↓reduceIte, Nat.reduceEqDiff, Nat.reduceLT, Nat.reduceAdd, Nat.reduceLeDiff, reduceCtorEq]
        refine ⟨⟨by omega, at_row hx⟩, hK _ ?_⟩
        refine hK10 _ ?_
        refine awp_seq_k fun K11 hK11 => ?_
        rcases way1 (show i < ns.length by omega) x with hf | ⟨hf, y, h0, hy⟩ | ⟨hf, h0⟩
        · refine drw mixed Γ_ok [1, 18, 19, 20, 43] [(1, .call [agN x] [] [] (.sc (.bool (fineB x))) []), (2, .b true)] (by kernel_rfl) [some 25, some 26, some 27, some 28, some 29, some 30, some 31, some 32, some 33, some 34, some 35, some 36, some 37, some 38, some 39, some 40, some 41, some 42, some 43] rfl fun K S hS hK => ?_
          simp only [go_sem, Int.reduceToNat, ↓reduceIte, Nat.reduceEqDiff, Nat.reduceLT, Nat.reduceAdd, Nat.reduceLeDiff, reduceCtorEq]
          refine ⟨cs0 (t_fits x) rfl rfl, by rw [hf]; rfl, hS _ (by kernel_rfl), hK _ ?_⟩
          refine hK11 _ ?_
          refine awp_true rfl ?_
          refine awp_seq_k fun K12 hK12 => ?_
          refine reg Γ_ok [2] [] _ rfl fun K hK => ?_
          simp only [go_sem, Int.reduceToNat, ↓reduceIte, Nat.reduceEqDiff, Nat.reduceLT, Nat.reduceAdd, Nat.reduceLeDiff, reduceCtorEq]
          refine hK _ ?_
          refine hK12 _ ?_
          refine awp_ret ?_
          exact fin_b (by unfold validF; rw [← hz, hf]; simp) (.inr rfl) rfl
        · refine drw mixed Γ_ok [1, 18, 19, 20, 43] [(1, .call [agN x] [] [] (.sc (.bool (fineB x))) []), (2, .b false), (5, .b true), (10, .i ((i - 1 : Nat) : Int)), (11, .row (encN y))] (by kernel_rfl) [some 25, some 26, some 27, some 28, some 29, some 30, some 31, some 32, some 33, some 34, some 35, some 36, some 37, some 38, some 39, some 40, some 41, some 42, some 43] rfl fun K S hS hK => ?_
          simp only [go_sem, Int.reduceToNat, ↓reduceIte, Nat.reduceEqDiff, Nat.reduceLT, Nat.reduceAdd, Nat.reduceLeDiff, reduceCtorEq]
          refine ⟨cs0 (t_fits x) rfl rfl, by rw [hf]; rfl, by simp; omega, wrap_pred (le_mx (by omega) hw.2.2.1) h0, ⟨by omega, at_row hy⟩, hS _ (by kernel_rfl), hK _ ?_⟩
          refine hK11 _ ?_
          refine awp_dec rfl (fun e => ?_) (fun e => ?_)
          · refine awp_seq_k fun K13 hK13 => ?_
            refine reg Γ_ok [2] [] _ rfl fun K hK => ?_
            simp only [go_sem, Int.reduceToNat, ↓reduceIte, Nat.reduceEqDiff, Nat.reduceLT, Nat.reduceAdd, Nat.reduceLeDiff, reduceCtorEq]
            refine hK _ ?_
            refine hK13 _ ?_
            refine awp_ret ?_
            exact fin_b (by unfold validF; rw [← hz, hf, prv_pos h0 hy, decide_eq_false (show ¬ y.f0 < x.f0 by omega)]; simp) (.inr rfl) rfl
          · rw [hf, prv_pos h0 hy, decide_eq_true (show y.f0 < x.f0 by omega), Bool.true_and, Bool.true_and, ← prv_succ hx] at hz
            refine awp_skip ?_
            refine hK9 _ ?_
            refine regc Γ_ok [0] [.bx [.ls 4 (ns.map encN), .ls 4 (ls.map encL)]] [(1, .pt 0 0), (18, .ls 4 (ns.map encN)), (19, .sc (.int .i64 ns.length)), (20, .sc (.int .i64 (i + 1 : Nat)))] [(0, .i ((i + 1 : Nat) : Int))] (by kernel_rfl) _ rfl fun K hK => ?_
            simp only [go_sem, Int.reduceToNat, ↓reduceIte, Nat.reduceEqDiff, Nat.reduceLT, Nat.reduceAdd, Nat.reduceLeDiff, reduceCtorEq]
            refine ⟨wrap_succ (le_mx (by omega) hw.2.2.1), (by repeat' (first | rfl | constructor)), hK _ ?_⟩
            exact ⟨_, by omega, i + 1, by omega, rfl, hz, rfl⟩
        · refine drw mixed Γ_ok [1, 18, 19, 20, 43] [(1, .call [agN x] [] [] (.sc (.bool (fineB x))) []), (2, .b false), (5, .b false)] (by kernel_rfl) [some 25, some 26, some 27, some 28, some 29, some 30, some 31, some 32, some 33, some 34, some 35, some 36, some 37, some 38, some 39, some 40, some 41, some 42, some 43] rfl fun K S hS hK => ?_
          simp only [go_sem, Int.reduceToNat, ↓reduceIte, Nat.reduceEqDiff, Nat.reduceLT, Nat.reduceAdd, Nat.reduceLeDiff, reduceCtorEq]
          refine ⟨cs0 (t_fits x) rfl rfl, by rw [hf]; rfl, by simp; omega, hS _ (by kernel_rfl), hK _ ?_⟩
          rw [hf, prv_zero ns h0, Bool.true_and, Bool.true_and, ← prv_succ hx] at hz
          refine hK11 _ ?_
          refine awp_false rfl ?_
          refine awp_skip ?_
          refine hK9 _ ?_
          refine regc Γ_ok [0] [.bx [.ls 4 (ns.map encN), .ls 4 (ls.map encL)]] [(1, .pt 0 0), (18, .ls 4 (ns.map encN)), (19, .sc (.int .i64 ns.length)), (20, .sc (.int .i64 (i + 1 : Nat)))] [(0, .i ((i + 1 : Nat) : Int))] (by kernel_rfl) _ rfl fun K hK => ?_
          simp only [go_sem, Int.reduceToNat, ↓reduceIte, Nat.reduceEqDiff, Nat.reduceLT, Nat.reduceAdd, Nat.reduceLeDiff, reduceCtorEq]
          refine ⟨wrap_succ (le_mx (by omega) hw.2.2.1), (by repeat' (first | rfl | constructor)), hK _ ?_⟩
          exact ⟨_, by omega, i + 1, by omega, rfl, hz, rfl⟩
      · have hi2 : i = ns.length := by omega
        have hnok : nokR none ns = true := by rw [← hz, hi2, List.drop_eq_nil_of_le (Nat.le_refl _)]; rfl
        have hasc := (nok_asc ns none hnok).1
        have hfi := (nok_asc ns none hnok).2.2
        refine awp_exit ?_
        refine ex_th ?_
        refine ex_th ?_
        refine ex_in ?_
        refine hK5 _ ?_
        refine awp_seq_k fun K14 hK14 => ?_
        refine awp_seq_k fun K15 hK15 => ?_
        refine reg Γ_ok [1, 46, 47, 48] [] _ rfl fun K hK => ?_
        simp only [go_sem, Int.reduceToNat, ↓reduceIte, Nat.reduceEqDiff, Nat.reduceLT, Nat.reduceAdd, Nat.reduceLeDiff, reduceCtorEq]
        refine hK _ ?_
        refine hK15 _ ?_
        refine awp_block ?_
        refine awp_loop (fun m σ => ∃ i : Nat, i ≤ ls.length ∧ m = ls.length - i ∧ lokR ns (ls.take i) (ls.drop i) = lokR ns [] ls ∧ σ = ⟨[(1, .pt 0 0), (46, .ls 4 (ls.map encL)), (47, .sc (.int .i64 ls.length)), (48, .sc (.int .i64 (i : Nat)))], [(0, .bx [.ls 4 (ns.map encN), .ls 4 (ls.map encL)])], 1⟩) ls.length ⟨0, by omega, by omega, rfl, rfl⟩ ?_
        rintro m σ ⟨i, hi, rfl, hz, rfl⟩
        refine awp_seq_k fun K16 hK16 => ?_
        refine reg Γ_ok [1, 46, 47, 48, 49] [] _ rfl fun K hK => ?_
        simp only [go_sem, Int.reduceToNat, ↓reduceIte, Nat.reduceEqDiff, Nat.reduceLT, Nat.reduceAdd, Nat.reduceLeDiff, reduceCtorEq]
        refine hK _ ?_
        refine hK16 _ ?_
        refine awp_seq_k fun K17 hK17 => ?_
        refine awp_dec rfl (fun e => ?_) (fun e => ?_)
        · obtain ⟨x, hx⟩ : ∃ x, ls[i]? = some x := ⟨_, List.getElem?_eq_getElem (by omega)⟩
          rw [drop_at hx, lok_cons] at hz
          have hep := ends_ports hasc x
          have hcl : ((ls.take i).any fun k => clashB ns k x) = (ls.take i).any fun k => crB ns k x := by simp only [clash_cr hasc]
          refine awp_skip ?_
          refine hK17 _ ?_
          refine awp_seq_k fun K18 hK18 => ?_
          refine awp_block ?_
          refine awp_seq_k fun K19 hK19 => ?_
          refine reg Γ_ok [1, 5, 6, 46, 47, 48] [(1, .row (encL x))] _ rfl fun K hK => ?_
          simp only [go_sem, Int.reduceToNat, ↓reduceIte, Nat.reduceEqDiff, Nat.reduceLT, Nat.reduceAdd, Nat.reduceLeDiff, reduceCtorEq]
          refine ⟨⟨by omega, at_row hx⟩, hK _ ?_⟩
          refine hK19 _ ?_
          refine awp_seq_k fun K20 hK20 => ?_
          rcases way2 ns (show i < ls.length by omega) x with ⟨hp, y, h0, hy, hc⟩ | ⟨hp, y, h0, hy, hc⟩ | ⟨hp, h0⟩ | hp
          have hlt := (last_pos (x := x) h0 hy).trans hc
          rotate_left
          have hlt := (last_pos (x := x) h0 hy).trans hc
          rotate_left
          have hlt := last_zero ls h0 x
          rotate_left
          rotate_left
          · refine drw mixed Γ_ok [1, 46, 47, 48, 80] [(2, .call [gV ns ls, agL x] [] [] (.sc (.bool (portsB ns x))) []), (3, .b false), (6, .b true), (11, .i ((i - 1 : Nat) : Int)), (12, .row (encL y)), (15, .call [agL y, agL x] [] [] (.sc (.bool (decide (cmpL y x < 0)))) []), (16, .b true)] (by kernel_rfl) [some 53, some 54, some 55, some 56, some 57, some 58, some 59, some 60, some 61, some 62, some 63, some 64, some 65, some 66, some 67, some 68, some 69, some 70, some 71, some 72, some 73, some 74, some 75, some 76, some 77, some 78, some 79, some 80] rfl fun K S hS hK => ?_
            simp only [go_sem, Int.reduceToNat, ↓reduceIte, Nat.reduceEqDiff, Nat.reduceLT, Nat.reduceAdd, Nat.reduceLeDiff, reduceCtorEq]
            refine ⟨cs0 (t_ports ns ls x hw) rfl rfl, by rw [hp]; rfl, by simp; omega, wrap_pred (le_mx (by omega) hw.2.2.2) h0, ⟨by omega, at_row hy⟩, cs0 (t_less y x) rfl rfl, by rw [hc]; rfl, hS _ (by kernel_rfl), hK _ ?_⟩
            refine hK20 _ ?_
            refine awp_true rfl ?_
            refine awp_seq_k fun K21 hK21 => ?_
            refine reg Γ_ok [2] [] _ rfl fun K hK => ?_
            simp only [go_sem, Int.reduceToNat, ↓reduceIte, Nat.reduceEqDiff, Nat.reduceLT, Nat.reduceAdd, Nat.reduceLeDiff, reduceCtorEq]
            refine hK _ ?_
            refine hK21 _ ?_
            refine awp_ret ?_
            exact fin_b (by unfold validF; rw [hnok, ← hz, hep, hp, hlt]; simp) (.inr rfl) rfl
          · refine drw mixed Γ_ok [1, 46, 47, 48, 80] [(2, .call [gV ns ls, agL x] [] [] (.sc (.bool (portsB ns x))) []), (3, .b false), (6, .b true), (11, .i ((i - 1 : Nat) : Int)), (12, .row (encL y)), (15, .call [agL y, agL x] [] [] (.sc (.bool (decide (cmpL y x < 0)))) []), (16, .b false), (26, .call [gV ns ls, agL x, .ls 4 ((ls.take i).map encL)] [] [] (.sc (.bool ((ls.take i).any fun k => crB ns k x))) [])] (by kernel_rfl) [some 53, some 54, some 55, some 56, some 57, some 58, some 59, some 60, some 61, some 62, some 63, some 64, some 65, some 66, some 67, some 68, some 69, some 70, some 71, some 72, some 73, some 74, some 75, some 76, some 77, some 78, some 79, some 80] rfl fun K S hS hK => ?_
            simp only [go_sem, Int.reduceToNat, ↓reduceIte, Nat.reduceEqDiff, Nat.reduceLT, Nat.reduceAdd, Nat.reduceLeDiff, reduceCtorEq]
            refine ⟨cs0 (t_ports ns ls x hw) rfl rfl, by rw [hp]; rfl, by simp; omega, wrap_pred (le_mx (by omega) hw.2.2.2) h0, ⟨by omega, at_row hy⟩, cs0 (t_less y x) rfl rfl, by rw [hc]; rfl, ⟨by omega, by omega, by omega⟩, cs0 (t_crowded ns ls x (ls.take i) hw (by rw [List.length_take]; have := hw.2.2.2; omega)) (by rw [List.map_take]; rfl) rfl, hS _ (by kernel_rfl), hK _ ?_⟩
            refine hK20 _ ?_
            refine awp_cond _ rfl (fun e => ?_) (fun e => ?_)
            · refine awp_seq_k fun K22 hK22 => ?_
              refine reg Γ_ok [2] [] _ rfl fun K hK => ?_
              simp only [go_sem, Int.reduceToNat, ↓reduceIte, Nat.reduceEqDiff, Nat.reduceLT, Nat.reduceAdd, Nat.reduceLeDiff, reduceCtorEq]
              refine hK _ ?_
              refine hK22 _ ?_
              refine awp_ret ?_
              exact fin_b (by unfold validF; rw [hnok, ← hz, hep, hp, hlt, hcl, e]; simp) (.inr rfl) rfl
            · rw [hep, hp, hlt, hcl, e, ← take_at hx] at hz
              simp only [Bool.true_and, Bool.not_false] at hz
              refine awp_skip ?_
              refine hK18 _ ?_
              refine regc Γ_ok [0] [.bx [.ls 4 (ns.map encN), .ls 4 (ls.map encL)]] [(1, .pt 0 0), (46, .ls 4 (ls.map encL)), (47, .sc (.int .i64 ls.length)), (48, .sc (.int .i64 (i + 1 : Nat)))] [(0, .i ((i + 1 : Nat) : Int))] (by kernel_rfl) _ rfl fun K hK => ?_
              simp only [go_sem, Int.reduceToNat, ↓reduceIte, Nat.reduceEqDiff, Nat.reduceLT, Nat.reduceAdd, Nat.reduceLeDiff, reduceCtorEq]
              refine ⟨wrap_succ (le_mx (by omega) hw.2.2.2), (by repeat' (first | rfl | constructor)), hK _ ?_⟩
              exact ⟨_, by omega, i + 1, by omega, rfl, hz, rfl⟩
          · refine drw mixed Γ_ok [1, 46, 47, 48, 80] [(2, .call [gV ns ls, agL x] [] [] (.sc (.bool (portsB ns x))) []), (3, .b false), (6, .b false), (26, .call [gV ns ls, agL x, .ls 4 ((ls.take i).map encL)] [] [] (.sc (.bool ((ls.take i).any fun k => crB ns k x))) [])] (by kernel_rfl) [some 53, some 54, some 55, some 56, some 57, some 58, some 59, some 60, some 61, some 62, some 63, some 64, some 65, some 66, some 67, some 68, some 69, some 70, some 71, some 72, some 73, some 74, some 75, some 76, some 77, some 78, some 79, some 80] rfl fun K S hS hK => ?_
            simp only [go_sem, Int.reduceToNat, ↓reduceIte, Nat.reduceEqDiff, Nat.reduceLT, Nat.reduceAdd, Nat.reduceLeDiff, reduceCtorEq]
            refine ⟨cs0 (t_ports ns ls x hw) rfl rfl, by rw [hp]; rfl, by simp; omega, ⟨by omega, by omega, by omega⟩, cs0 (t_crowded ns ls x (ls.take i) hw (by rw [List.length_take]; have := hw.2.2.2; omega)) (by rw [List.map_take]; rfl) rfl, hS _ (by kernel_rfl), hK _ ?_⟩
            refine hK20 _ ?_
            refine awp_cond _ rfl (fun e => ?_) (fun e => ?_)
            · refine awp_seq_k fun K23 hK23 => ?_
              refine reg Γ_ok [2] [] _ rfl fun K hK => ?_
              simp only [go_sem, Int.reduceToNat, ↓reduceIte, Nat.reduceEqDiff, Nat.reduceLT, Nat.reduceAdd, Nat.reduceLeDiff, reduceCtorEq]
              refine hK _ ?_
              refine hK23 _ ?_
              refine awp_ret ?_
              exact fin_b (by unfold validF; rw [hnok, ← hz, hep, hp, hlt, hcl, e]; simp) (.inr rfl) rfl
            · rw [hep, hp, hlt, hcl, e, ← take_at hx] at hz
              simp only [Bool.true_and, Bool.not_false] at hz
              refine awp_skip ?_
              refine hK18 _ ?_
              refine regc Γ_ok [0] [.bx [.ls 4 (ns.map encN), .ls 4 (ls.map encL)]] [(1, .pt 0 0), (46, .ls 4 (ls.map encL)), (47, .sc (.int .i64 ls.length)), (48, .sc (.int .i64 (i + 1 : Nat)))] [(0, .i ((i + 1 : Nat) : Int))] (by kernel_rfl) _ rfl fun K hK => ?_
              simp only [go_sem, Int.reduceToNat, ↓reduceIte, Nat.reduceEqDiff, Nat.reduceLT, Nat.reduceAdd, Nat.reduceLeDiff, reduceCtorEq]
              refine ⟨wrap_succ (le_mx (by omega) hw.2.2.2), (by repeat' (first | rfl | constructor)), hK _ ?_⟩
              exact ⟨_, by omega, i + 1, by omega, rfl, hz, rfl⟩
          · refine drw mixed Γ_ok [1, 46, 47, 48, 80] [(2, .call [gV ns ls, agL x] [] [] (.sc (.bool (portsB ns x))) []), (3, .b true)] (by kernel_rfl) [some 53, some 54, some 55, some 56, some 57, some 58, some 59, some 60, some 61, some 62, some 63, some 64, some 65, some 66, some 67, some 68, some 69, some 70, some 71, some 72, some 73, some 74, some 75, some 76, some 77, some 78, some 79, some 80] rfl fun K S hS hK => ?_
            simp only [go_sem, Int.reduceToNat, ↓reduceIte, Nat.reduceEqDiff, Nat.reduceLT, Nat.reduceAdd, Nat.reduceLeDiff, reduceCtorEq]
            refine ⟨cs0 (t_ports ns ls x hw) rfl rfl, by rw [hp]; rfl, hS _ (by kernel_rfl), hK _ ?_⟩
            refine hK20 _ ?_
            refine awp_true rfl ?_
            refine awp_seq_k fun K24 hK24 => ?_
            refine reg Γ_ok [2] [] _ rfl fun K hK => ?_
            simp only [go_sem, Int.reduceToNat, ↓reduceIte, Nat.reduceEqDiff, Nat.reduceLT, Nat.reduceAdd, Nat.reduceLeDiff, reduceCtorEq]
            refine hK _ ?_
            refine hK24 _ ?_
            refine awp_ret ?_
            exact fin_b (by unfold validF; rw [hnok, ← hz, hep, hp]; simp) (.inr rfl) rfl
        · have hi2 : i = ls.length := by omega
          have hlok : lokR ns [] ls = true := by rw [← hz, hi2, List.drop_eq_nil_of_le (Nat.le_refl _)]; rfl
          refine awp_exit ?_
          refine ex_th ?_
          refine ex_th ?_
          refine ex_in ?_
          refine hK14 _ ?_
          refine awp_seq_k fun K25 hK25 => ?_
          refine drw mixed Γ_ok [2] [(1, .call [gV ns ls] [] [] (.ls 1 ((rordF ns ls).map encI)) [])] (by kernel_rfl) _ rfl fun K S hS hK => ?_
          simp only [go_sem, Int.reduceToNat, ↓reduceIte, Nat.reduceEqDiff, Nat.reduceLT, Nat.reduceAdd, Nat.reduceLeDiff, reduceCtorEq]
          refine ⟨cs0 (t_rorder ns ls hw) rfl rfl, hS _ (by kernel_rfl), hK _ ?_⟩
          refine hK25 _ ?_
          refine awp_ret ?_
          exact fin_b (by unfold validF; rw [hnok, hlok, rordF_eq ns ls (fun n hn => by have := hfi n hn; unfold fineB at this; simp at this; omega), decide_eq_true (show ns.length ≤ 64 ∧ ls.length ≤ 256 by omega)]; simp only [Bool.true_and, decide_eq_decide]; omega) (.inr rfl) rfl
  · refine reg Γ_ok [1, 16] [(3, .b true)] [some 7, some 8, some 9, some 10, some 11, some 12, some 13, some 14, some 15, some 16] rfl fun K hK => ?_
    simp only [go_sem, Int.reduceToNat, ↓reduceIte, Nat.reduceEqDiff, Nat.reduceLT, Nat.reduceAdd, Nat.reduceLeDiff, reduceCtorEq]
    refine ⟨by simp; omega, hK _ ?_⟩
    refine hK3 _ ?_
    refine awp_true rfl ?_
    refine awp_seq_k fun K26 hK26 => ?_
    refine reg Γ_ok [2] [] _ rfl fun K hK => ?_
    simp only [go_sem, Int.reduceToNat, ↓reduceIte, Nat.reduceEqDiff, Nat.reduceLT, Nat.reduceAdd, Nat.reduceLeDiff, reduceCtorEq]
    refine hK _ ?_
    refine hK26 _ ?_
    refine awp_ret ?_
    exact fin_b (by unfold validF; rw [decide_eq_false (by omega)]; rfl) (.inr rfl) rfl
end Go.Proofs.YtcbpghpfdjfddaaE
-- Declarations of the printer's words that this claim uses (slim.py, a program of this session).
namespace Go.Proofs.YtcbpghpfdjfddaaE
open Go Go.RowKit
set_option linter.unusedVariables false
set_option linter.unusedSimpArgs false
def nx (l : List Int) (n : Int) : Int := match l with
  | [] => 0
  | x :: _ => if n ≤ 1 then 0 else x.tmod n
def rs (l : List Int) (n : Int) : List Int := match l with
  | [] => []
  | x :: r => if n ≤ 1 then x :: r else r
def U8 (l : List Int) : Prop := ∀ x ∈ l, 0 ≤ x ∧ x < 256
theorem nx_le (x : Int) (r : List Int) {n : Int} (h : n ≤ 1) : nx (x :: r) n = 0 := if_pos h
theorem nx_gt (x : Int) (r : List Int) {n : Int} (h : ¬ n ≤ 1) : nx (x :: r) n = x.tmod n := if_neg h
theorem rs_le (x : Int) (r : List Int) {n : Int} (h : n ≤ 1) : rs (x :: r) n = x :: r := if_pos h
theorem rs_gt (x : Int) (r : List Int) {n : Int} (h : ¬ n ≤ 1) : rs (x :: r) n = r := if_neg h
theorem u8_rs {l : List Int} (h : U8 l) (n : Int) : U8 (rs l n) := by
  cases l with
  | nil => exact h
  | cons x r =>
    by_cases hn : n ≤ 1
    · rw [rs_le x r hn]; exact h
    · rw [rs_gt x r hn]; exact fun y hy => h y (List.mem_cons_of_mem _ hy)
theorem nx_ge {l : List Int} (h : U8 l) (n : Int) : 0 ≤ nx l n := by
  cases l with
  | nil => exact Int.le_refl _
  | cons x r =>
    by_cases hn : n ≤ 1
    · rw [nx_le x r hn]; omega
    · rw [nx_gt x r hn]; exact Int.tmod_nonneg _ (h x List.mem_cons_self).1
theorem nx_lt {l : List Int} (h : U8 l) {n : Int} (hn : 1 ≤ n) : nx l n < n := by
  cases l with
  | nil => exact Int.lt_of_lt_of_le (show (0 : Int) < 1 by omega) hn
  | cons x r =>
    by_cases hn' : n ≤ 1
    · rw [nx_le x r hn']; omega
    · rw [nx_gt x r hn']; exact Int.tmod_lt_of_pos _ (show 0 < n by omega)
theorem nx_one {l : List Int} (h : U8 l) {n : Int} (hn : 1 ≤ n) (hm : n ≤ 1000) : IntKind.i64.wrap (1 + nx l n) = 1 + nx l n := wrap_i64 (by have := nx_ge h n; omega) (by have := nx_lt h hn; omega)
def encU (x : Int) : List D := [D.v (.int .u8 x)]
attribute [go_sem] encU
def dc (l : List Int) : HC := .bx [.ls 1 (l.map encU)]
attribute [go_sem] dc
theorem cs1 {P : Program} {g : FuncId} {ags : List AV} {all : List AV} {h : Nat → HC} {N t : Nat} {r : AV} {l l' : List Int} (ht : Tri P g ags [dc l] r [dc l']) (hN : t < N) (hh : h t = dc l) (he : AV.renL (idf [t] N) ags = all) (hl : AV.ltL 1 ags = true) : CallSide P g all h N ags [t] [dc l] r [dc l'] :=
  ⟨he, rfl, List.nodup_cons.2 ⟨List.not_mem_nil, List.nodup_nil⟩, fun s hs => by rw [List.mem_singleton.1 hs]; exact hN, by rw [List.map_cons, hh]; rfl, hl, rfl, ht⟩
theorem cs1a {P : Program} {g : FuncId} {ags : List AV} {all : List AV} {h : Nat → HC} {N t : Nat} {r : AV} {l l' : List Int} (ht : Tri P g ags [dc l] r [dc l']) (hN : t < N) (hh : h t = dc l) (he : AV.renL (idf [t] N) ags = all) (hl : AV.ltL 1 ags = true) : CallSide P g all h N ags [t] [.bx [.ls 1 (l.map encU)]] r [.bx [.ls 1 (l'.map encU)]] := cs1 ht hN hh he hl
theorem len0 {α : Type} {x : α} {xs : List α} : ¬ (((x :: xs).length : Int) = 0) := by simp; omega
set_option maxHeartbeats 4000000 in
theorem t_next (l : List Int) (n : Int) (hl : U8 l) : Tri Try.prog 28 [.pt 0 0, .sc (.int .i64 n)] [dc l] (.sc (.int .i64 (nx l n))) [dc (rs l n)] := by
  refine tri_of (n := 34) Γ_ok Try.func28 rfl rfl rfl (by simp only [go_sem, Nat.reduceLeDiff]) rfl (by simp only [go_sem, Nat.reduceLeDiff]) ?_
  refine awp_seq_k fun K1 hK1 => ?_
  refine reg Γ_ok [0, 1] [] _ rfl fun K hK => ?_
  simp only [go_sem, Int.reduceToNat, ↓reduceIte, Nat.reduceEqDiff, Nat.reduceLT, Nat.reduceAdd, Nat.reduceLeDiff, reduceCtorEq]
  refine hK _ ?_
  refine hK1 _ ?_
  refine awp_seq_k fun K2 hK2 => ?_
  refine awp_seq_k fun K3 hK3 => ?_
  rcases l with _ | ⟨x, q⟩
  · refine reg Γ_ok [0, 1, 15] [(5, .b true)] [some 6, some 7, some 8, some 9, some 10, some 11, some 12, some 13, some 14, some 15] rfl fun K hK => ?_
    simp only [go_sem, Int.reduceToNat, ↓reduceIte, Nat.reduceEqDiff, Nat.reduceLT, Nat.reduceAdd, Nat.reduceLeDiff, reduceCtorEq]
    refine ⟨rfl, hK _ ?_⟩
    refine hK3 _ ?_
    refine awp_true rfl ?_
    refine awp_seq_k fun K4 hK4 => ?_
    refine reg Γ_ok [4] [] _ rfl fun K hK => ?_
    simp only [go_sem, Int.reduceToNat, ↓reduceIte, Nat.reduceEqDiff, Nat.reduceLT, Nat.reduceAdd, Nat.reduceLeDiff, reduceCtorEq]
    refine hK _ ?_
    refine hK4 _ ?_
    refine awp_ret ?_
    exact fin [0] (.inr rfl) rfl rfl rfl (by kernel_rfl) ⟨rfl, rfl, trivial⟩
  · refine reg Γ_ok [0, 1, 15] [(5, .b false)] [some 6, some 7, some 8, some 9, some 10, some 11, some 12, some 13, some 14, some 15] rfl fun K hK => ?_
    simp only [go_sem, Int.reduceToNat, ↓reduceIte, Nat.reduceEqDiff, Nat.reduceLT, Nat.reduceAdd, Nat.reduceLeDiff, reduceCtorEq]
    refine ⟨by simp; omega, hK _ ?_⟩
    refine hK3 _ ?_
    refine awp_dec rfl (fun e => ?_) (fun e => ?_)
    · refine awp_seq_k fun K5 hK5 => ?_
      refine reg Γ_ok [4] [] _ rfl fun K hK => ?_
      simp only [go_sem, Int.reduceToNat, ↓reduceIte, Nat.reduceEqDiff, Nat.reduceLT, Nat.reduceAdd, Nat.reduceLeDiff, reduceCtorEq]
      refine hK _ ?_
      refine hK5 _ ?_
      refine awp_ret ?_
      exact fin [0] (.inr rfl) rfl (by rw [nx_le x q e]; rfl) rfl (by kernel_rfl) ⟨by rw [rs_le x q e]; rfl, rfl, trivial⟩
    · refine awp_skip ?_
      refine hK2 _ ?_
      refine awp_seq_k fun K6 hK6 => ?_
      refine reg Γ_ok [0, 1, 5] [(4, .row (encU x)), (6, .i x)] _ rfl fun K hK => ?_
      simp only [go_sem, Int.reduceToNat, ↓reduceIte, Nat.reduceEqDiff, Nat.reduceLT, Nat.reduceAdd, Nat.reduceLeDiff, reduceCtorEq]
      refine ⟨by omega, wrap_i64 (by have := hl x List.mem_cons_self; omega) (by have := hl x List.mem_cons_self; omega), hK _ ?_⟩
      refine hK6 _ ?_
      refine awp_seq_k fun K7 hK7 => ?_
      refine reg Γ_ok [1, 5] [] _ rfl fun K hK => ?_
      simp only [go_sem, Int.reduceToNat, ↓reduceIte, Nat.reduceEqDiff, Nat.reduceLT, Nat.reduceAdd, Nat.reduceLeDiff, reduceCtorEq]
      refine ⟨⟨by omega, by omega, by omega⟩, hK _ ?_⟩
      refine hK7 _ ?_
      refine awp_seq_k fun K8 hK8 => ?_
      refine reg Γ_ok [4] [] _ rfl fun K hK => ?_
      simp only [go_sem, Int.reduceToNat, ↓reduceIte, Nat.reduceEqDiff, Nat.reduceLT, Nat.reduceAdd, Nat.reduceLeDiff, reduceCtorEq]
      refine ⟨by omega, hK _ ?_⟩
      refine hK8 _ ?_
      refine awp_ret ?_
      exact fin [0] (.inr rfl) rfl (by rw [nx_gt x q e]; rfl) rfl (by kernel_rfl) ⟨by rw [rs_gt x q e]; rfl, rfl, trivial⟩
def lk_ (l : List Int) : Lk := ⟨1 + nx l 12, nx (rs l 12) 2, 1 + nx (rs (rs l 12) 2) 12, nx (rs (rs (rs l 12) 2) 12) 2⟩
def lkR (l : List Int) : List Int := rs (rs (rs (rs l 12) 2) 12) 2
def nodeN (l : List Int) (id : Int) : Nd := if nx l 5 = 0 then ⟨id, 1, 0, 1⟩ else if nx l 5 = 1 then ⟨id, 2, 1, 0⟩ else if nx l 5 = 2 then ⟨id, 3, 1 + nx (rs l 5) 3, 1⟩ else if nx l 5 = 3 then ⟨id, 4, 1, 1⟩ else ⟨id, 5, 1, 1 + nx (rs l 5) 3⟩
def nodeR (l : List Int) : List Int := if nx l 5 = 0 then rs l 5 else if nx l 5 = 1 then rs l 5 else if nx l 5 = 2 then rs (rs l 5) 3 else if nx l 5 = 3 then rs l 5 else rs (rs l 5) 3
set_option maxHeartbeats 4000000 in
theorem t_link (l : List Int) (hl : U8 l) : Tri Try.prog 22 [.pt 0 0] [dc l] (agL (lk_ l)) [dc (lkR l)] := by
  refine tri_of (n := 14) Γ_ok Try.func22 rfl rfl rfl (by simp only [go_sem, Nat.reduceLeDiff]) rfl (by simp only [go_sem, Nat.reduceLeDiff]) ?_
  refine awp_seq_k fun K1 hK1 => ?_
  refine reg Γ_ok [0, 2] [] _ rfl fun K hK => ?_
  simp only [go_sem, Int.reduceToNat, ↓reduceIte, Nat.reduceEqDiff, Nat.reduceLT, Nat.reduceAdd, Nat.reduceLeDiff, reduceCtorEq]
  refine hK _ ?_
  refine hK1 _ ?_
  refine awp_seq_k fun K2 hK2 => ?_
  have h1 := u8_rs hl 12
  have h2 := u8_rs h1 2
  have h3 := u8_rs h2 12
  refine reg Γ_ok [2] [(1, .call [.pt 0 0, .sc (.int .i64 12)] [0] [dc (l)] (.sc (.int .i64 (nx (l) 12))) [dc (rs (l) 12)]), (2, .i (1 + nx l 12)), (4, .call [.pt 0 0, .sc (.int .i64 2)] [0] [dc (rs l 12)] (.sc (.int .i64 (nx (rs l 12) 2))) [dc (rs (rs l 12) 2)]), (6, .call [.pt 0 0, .sc (.int .i64 12)] [0] [dc (rs (rs l 12) 2)] (.sc (.int .i64 (nx (rs (rs l 12) 2) 12))) [dc (rs (rs (rs l 12) 2) 12)]), (7, .i (1 + nx (rs (rs l 12) 2) 12)), (9, .call [.pt 0 0, .sc (.int .i64 2)] [0] [dc (rs (rs (rs l 12) 2) 12)] (.sc (.int .i64 (nx (rs (rs (rs l 12) 2) 12) 2))) [dc (rs (rs (rs (rs l 12) 2) 12) 2)])] _ rfl fun K hK => ?_
  simp only [go_sem, Int.reduceToNat, ↓reduceIte, Nat.reduceEqDiff, Nat.reduceLT, Nat.reduceAdd, Nat.reduceLeDiff, reduceCtorEq]
  refine ⟨cs1a (t_next (l) 12 hl) (by omega) rfl rfl rfl, nx_one hl (by omega) (by omega), cs1a (t_next (rs l 12) 2 h1) (by omega) rfl rfl rfl, cs1a (t_next (rs (rs l 12) 2) 12 h2) (by omega) rfl rfl rfl, nx_one h2 (by omega) (by omega), cs1a (t_next (rs (rs (rs l 12) 2) 12) 2 h3) (by omega) rfl rfl rfl, hK _ ?_⟩
  refine hK2 _ ?_
  refine awp_ret ?_
  exact fin [0] (.inr rfl) rfl rfl rfl (by kernel_rfl) ⟨rfl, rfl, trivial⟩
set_option maxHeartbeats 4000000 in
theorem t_node (l : List Int) (id : Int) (hl : U8 l) : Tri Try.prog 27 [.pt 0 0, .sc (.int .i64 id)] [dc l] (agN (nodeN l id)) [dc (nodeR l)] := by
  refine tri_of (n := 31) Γ_ok Try.func27 rfl rfl rfl (by simp only [go_sem, Nat.reduceLeDiff]) rfl (by simp only [go_sem, Nat.reduceLeDiff]) ?_
  refine awp_seq_k fun K1 hK1 => ?_
  refine reg Γ_ok [0, 1, 4] [] _ rfl fun K hK => ?_
  simp only [go_sem, Int.reduceToNat, ↓reduceIte, Nat.reduceEqDiff, Nat.reduceLT, Nat.reduceAdd, Nat.reduceLeDiff, reduceCtorEq]
  refine hK _ ?_
  refine hK1 _ ?_
  refine awp_seq_k fun K2 hK2 => ?_
  refine awp_seq_k fun K3 hK3 => ?_
  have h1 := u8_rs hl 5
  refine reg Γ_ok [0, 1, 4, 6] [(1, .call [.pt 0 0, .sc (.int .i64 5)] [0] [dc (l)] (.sc (.int .i64 (nx (l) 5))) [dc (rs (l) 5)])] _ rfl fun K hK => ?_
  simp only [go_sem, Int.reduceToNat, ↓reduceIte, Nat.reduceEqDiff, Nat.reduceLT, Nat.reduceAdd, Nat.reduceLeDiff, reduceCtorEq]
  refine ⟨cs1a (t_next (l) 5 hl) (by omega) rfl rfl rfl, hK _ ?_⟩
  refine hK3 _ ?_
  refine awp_block ?_
  refine awp_seq_k fun K4 hK4 => ?_
  refine reg Γ_ok [0, 1, 4, 6, 7] [] _ rfl fun K hK => ?_
  simp only [go_sem, Int.reduceToNat, ↓reduceIte, Nat.reduceEqDiff, Nat.reduceLT, Nat.reduceAdd, Nat.reduceLeDiff, reduceCtorEq]
  refine hK _ ?_
  refine hK4 _ ?_
  refine awp_dec rfl (fun e => ?_) (fun e => ?_)
  · have e0 := e
    refine awp_seq_k fun K5 hK5 => ?_
    refine reg Γ_ok [4] [] _ rfl fun K hK => ?_
    simp only [go_sem, Int.reduceToNat, ↓reduceIte, Nat.reduceEqDiff, Nat.reduceLT, Nat.reduceAdd, Nat.reduceLeDiff, reduceCtorEq]
    refine hK _ ?_
    refine hK5 _ ?_
    refine awp_ret ?_
    exact fin [0] (.inr rfl) rfl (by unfold nodeN; rw [if_pos e0]; rfl) rfl (by kernel_rfl) ⟨by unfold nodeR; rw [if_pos e0]; rfl, rfl, trivial⟩
  · have e0 := e
    refine awp_seq_k fun K6 hK6 => ?_
    refine reg Γ_ok [0, 1, 4, 6, 11] [] _ rfl fun K hK => ?_
    simp only [go_sem, Int.reduceToNat, ↓reduceIte, Nat.reduceEqDiff, Nat.reduceLT, Nat.reduceAdd, Nat.reduceLeDiff, reduceCtorEq]
    refine hK _ ?_
    refine hK6 _ ?_
    refine awp_dec rfl (fun e => ?_) (fun e => ?_)
    · have e1 := e
      refine awp_seq_k fun K7 hK7 => ?_
      refine reg Γ_ok [4] [] _ rfl fun K hK => ?_
      simp only [go_sem, Int.reduceToNat, ↓reduceIte, Nat.reduceEqDiff, Nat.reduceLT, Nat.reduceAdd, Nat.reduceLeDiff, reduceCtorEq]
      refine hK _ ?_
      refine hK7 _ ?_
      refine awp_ret ?_
      exact fin [0] (.inr rfl) rfl (by unfold nodeN; rw [if_neg e0, if_pos e1]; rfl) rfl (by kernel_rfl) ⟨by unfold nodeR; rw [if_neg e0, if_pos e1]; rfl, rfl, trivial⟩
    · have e1 := e
      refine awp_seq_k fun K8 hK8 => ?_
      refine reg Γ_ok [0, 1, 4, 6, 15] [] _ rfl fun K hK => ?_
      simp only [go_sem, Int.reduceToNat, ↓reduceIte, Nat.reduceEqDiff, Nat.reduceLT, Nat.reduceAdd, Nat.reduceLeDiff, reduceCtorEq]
      refine hK _ ?_
      refine hK8 _ ?_
      refine awp_dec rfl (fun e => ?_) (fun e => ?_)
      · have e2 := e
        refine awp_seq_k fun K9 hK9 => ?_
        refine reg Γ_ok [4] [(2, .call [.pt 0 0, .sc (.int .i64 3)] [0] [dc (rs l 5)] (.sc (.int .i64 (nx (rs l 5) 3))) [dc (rs (rs l 5) 3)]), (3, .i (1 + nx (rs l 5) 3))] _ rfl fun K hK => ?_
        simp only [go_sem, Int.reduceToNat, ↓reduceIte, Nat.reduceEqDiff, Nat.reduceLT, Nat.reduceAdd, Nat.reduceLeDiff, reduceCtorEq]
        refine ⟨cs1a (t_next (rs l 5) 3 h1) (by omega) rfl rfl rfl, nx_one h1 (by omega) (by omega), hK _ ?_⟩
        refine hK9 _ ?_
        refine awp_ret ?_
        exact fin [0] (.inr rfl) rfl (by unfold nodeN; rw [if_neg e0, if_neg e1, if_pos e2]; rfl) rfl (by kernel_rfl) ⟨by unfold nodeR; rw [if_neg e0, if_neg e1, if_pos e2]; rfl, rfl, trivial⟩
      · have e2 := e
        refine awp_seq_k fun K10 hK10 => ?_
        refine reg Γ_ok [0, 1, 4, 22] [] _ rfl fun K hK => ?_
        simp only [go_sem, Int.reduceToNat, ↓reduceIte, Nat.reduceEqDiff, Nat.reduceLT, Nat.reduceAdd, Nat.reduceLeDiff, reduceCtorEq]
        refine hK _ ?_
        refine hK10 _ ?_
        refine awp_dec rfl (fun e => ?_) (fun e => ?_)
        · have e3 := e
          refine awp_seq_k fun K11 hK11 => ?_
          refine reg Γ_ok [4] [] _ rfl fun K hK => ?_
          simp only [go_sem, Int.reduceToNat, ↓reduceIte, Nat.reduceEqDiff, Nat.reduceLT, Nat.reduceAdd, Nat.reduceLeDiff, reduceCtorEq]
          refine hK _ ?_
          refine hK11 _ ?_
          refine awp_ret ?_
          exact fin [0] (.inr rfl) rfl (by unfold nodeN; rw [if_neg e0, if_neg e1, if_neg e2, if_pos e3]; rfl) rfl (by kernel_rfl) ⟨by unfold nodeR; rw [if_neg e0, if_neg e1, if_neg e2, if_pos e3]; rfl, rfl, trivial⟩
        · have e3 := e
          refine awp_skip ?_
          refine hK2 _ ?_
          refine awp_seq_k fun K12 hK12 => ?_
          refine reg Γ_ok [4] [(2, .call [.pt 0 0, .sc (.int .i64 3)] [0] [dc (rs l 5)] (.sc (.int .i64 (nx (rs l 5) 3))) [dc (rs (rs l 5) 3)]), (3, .i (1 + nx (rs l 5) 3))] _ rfl fun K hK => ?_
          simp only [go_sem, Int.reduceToNat, ↓reduceIte, Nat.reduceEqDiff, Nat.reduceLT, Nat.reduceAdd, Nat.reduceLeDiff, reduceCtorEq]
          refine ⟨cs1a (t_next (rs l 5) 3 h1) (by omega) rfl rfl rfl, nx_one h1 (by omega) (by omega), hK _ ?_⟩
          refine hK12 _ ?_
          refine awp_ret ?_
          exact fin [0] (.inr rfl) rfl (by unfold nodeN; rw [if_neg e0, if_neg e1, if_neg e2, if_neg e3]; rfl) rfl (by kernel_rfl) ⟨by unfold nodeR; rw [if_neg e0, if_neg e1, if_neg e2, if_neg e3]; rfl, rfl, trivial⟩
set_option maxHeartbeats 4000000 in
theorem t_new (l : List Int) : Tri Try.prog 23 [.ls 1 (l.map encU)] [] (.pt 0 0) [.bx [.ls 1 ((l.take (min l.length 300)).map encU)]] := by
  refine tri_of (n := 10) Γ_ok Try.func23 rfl rfl rfl (by simp only [go_sem, Nat.reduceLeDiff]) rfl (by simp only [go_sem, Nat.reduceLeDiff]) ?_
  refine awp_seq_k fun K1 hK1 => ?_
  refine reg Γ_ok [0] [] _ rfl fun K hK => ?_
  simp only [go_sem, Int.reduceToNat, ↓reduceIte, Nat.reduceEqDiff, Nat.reduceLT, Nat.reduceAdd, Nat.reduceLeDiff, reduceCtorEq]
  refine hK _ ?_
  refine hK1 _ ?_
  refine awp_seq_k fun K2 hK2 => ?_
  refine reg Γ_ok [2] [(3, .i ((min l.length 300 : Nat) : Int))] _ rfl fun K hK => ?_
  simp only [go_sem, Int.reduceToNat, ↓reduceIte, Nat.reduceEqDiff, Nat.reduceLT, Nat.reduceAdd, Nat.reduceLeDiff, reduceCtorEq]
  refine ⟨by omega, ⟨by omega, by omega, by omega⟩, hK _ ?_⟩
  refine hK2 _ ?_
  refine awp_ret ?_
  exact fin [0] (.inr rfl) rfl rfl rfl (by kernel_rfl) ⟨by rw [List.map_take]; rfl, rfl, trivial⟩
end Go.Proofs.YtcbpghpfdjfddaaE
