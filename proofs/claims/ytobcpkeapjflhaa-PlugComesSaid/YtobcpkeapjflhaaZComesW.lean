-- Declarations of the text that this claim uses (slim.py, a program of this session).
import Derived.Test.YtobcpkeapjflhaaZQx4
import Derived.Test.YtobcpkeapjflhaaZQx6
import Derived.Test.YtobcpkeapjflhaaZQx8
import Derived.Test.YtobcpkeapjflhaaZQx9
import Derived.Test.YtobcpkeapjflhaaZQx10
import Derived.WalkKit
import Derived.LoopTactic
import Derived.Lib.Hide
import Derived.ChangeAlike
import Derived.Below
namespace Go.Proofs.Ytobcpkeapjflhaa.ComesW
open Go Go.RowKit Go.Proofs.Ytobcpkeapjflhaa.Q Go.Proofs.YtobcpkeapjflhaaW.PrintWords Go.Proofs.YtobcpkeapjflhaaW.PrintLast Go.Proofs.YtobcpkeapjflhaaW.PrintMore
set_option linter.unusedVariables false
set_option linter.unusedSimpArgs false
abbrev T := S68
def Rd {α : Type} (d : Kd α) (w : World) (A : Option Addr) (c : Nat) (xs : List α) : Prop := Kd.C d w A xs.length xs ∧ xs.length ≤ c
theorem Rd.below {α : Type} {d : Kd α} {w w1 : World} {A : Option Addr} {c : Nat} {xs : List α} (h : Rd d w A c xs) (hb : Below w.heap.size w w1) : Rd d w1 A c xs := ⟨Kd.C_below h.1 hb, h.2⟩
theorem Rd.of {α : Type} {d : Kd α} {e base : Nat} {ok : Nat → Prop} {w : World} {v : Value} {xs : List α} (h : d.R e w base ok v xs) : ∃ A c, v = .slice A xs.length c ∧ Rd d w A c xs := by
  obtain ⟨A, c, rfl⟩ := Kd.R_slice h
  obtain ⟨h1, h2, h3⟩ := Kd.R_reads' h
  exact ⟨A, c, rfl, h3, h2⟩
theorem bcell {W w1 : World} (hb : Below W.heap.size W w1) : (∀ b o, b < W.heap.size → w1.cell? ⟨b, o, none⟩ = W.cell? ⟨b, o, none⟩) ∧ (∀ b o, b < W.heap.size → w1.frozen? ⟨b, o, none⟩ = W.frozen? ⟨b, o, none⟩) :=
  ⟨fun b o h => hb.cell (p := ⟨b, o, none⟩) h, fun b o h => hb.frozen (p := ⟨b, o, none⟩) h⟩
structure Facts (V : Int → List T → Bool) (P : Int → List T → Int → Int → Int × List T × Int) (U : Int → List T → Int → Int × List T × Int) (D : Int → List T → Int → List Int) : Prop where
  sane : ∃ k, soundservicelaw33_sane.f k = some true
  vp : ∀ s l, ∃ k, plug_Valid.f k s l = some (V s l)
  vr : ∀ s l, ∃ k, soundserviceref33_Valid.f k s l = some (V s l)
  pp : ∀ s l i a, ∃ k, plug_Plug.f k s l i a = some (P s l i a)
  pr : ∀ s l i a, ∃ k, soundserviceref33_Plug.f k s l i a = some (P s l i a)
  up : ∀ s l i, ∃ k, plug_Unplug.f k s l i = some (U s l i)
  ur : ∀ s l i, ∃ k, soundserviceref33_Unplug.f k s l i = some (U s l i)
  dp : ∀ s l a, ∃ k, plug_Ready.f k s l a = some (D s l a)
  dr : ∀ s l a, ∃ k, soundserviceref33_Ready.f k s l a = some (D s l a)
  ss : ∀ s l, l.length ≤ 4611686018427387904 → ∃ k, soundserviceref33_Same.f k s l s l = some true
  st : ∀ l, l.length ≤ 4611686018427387904 → ∃ k, soundservicelaw33_same.f k l l = some true
  pl : ∀ s l i a, (P s l i a).2.1.length ≤ 4611686018427387904
  ul : ∀ s l i, (U s l i).2.1.length ≤ 4611686018427387904
  dl : ∀ s l a, (D s l a).length ≤ 4611686018427387904
  m30 : ∀ n, ∃ r, soundservicemill_Mod.f n 30 = some r
  md : ∀ l, l.length ≤ 9223372036854775807 → ∃ k s xs, soundservicelaw33_made.f k l = some (s, xs)
section
variable {V : Int → List T → Bool} {P : Int → List T → Int → Int → Int × List T × Int} {U : Int → List T → Int → Int × List T × Int} {D : Int → List T → Int → List Int} (F : Facts V P U D)
include F
theorem c20 (w : World) : Calls Try.prog 20 #[] w fun e w' => e = .returned (.bool true) ∧ Below w.heap.size w w' := by
  obtain ⟨k, h⟩ := F.sane
  exact soundservicelaw33_sane.calls k true w h
theorem c27 (A : Option Addr) (c : Nat) (l : List Int) (w : World) (hr : Rd (Kd.int .i64) w A c l) : ∃ (s : Int) (xs : List T), Calls Try.prog 27 #[.slice A l.length c] w fun e w' => ∃ (A1 : Option Addr) (c1 : Nat), e = .returned (.agg #[.int .i64 s, .slice A1 xs.length c1]) ∧ Rd k68 w' A1 c1 xs ∧ Below w.heap.size w w' := by
  obtain ⟨k, s, xs, h⟩ := F.md l hr.1.2.1
  refine ⟨s, xs, (soundservicelaw33_made.calls k A c l s xs w hr.1 hr.2 h).mono ?_⟩
  rintro e w' ⟨v, rfl, ho, hb⟩
  obtain ⟨A1, c1, rfl, h1⟩ := Rd.of ho
  exact ⟨A1, c1, rfl, h1, hb⟩
theorem c28 (s : Int) (A : Option Addr) (c : Nat) (l : List T) (w : World) (hr : Rd k68 w A c l) : Calls Try.prog 28 #[.agg #[.int .i64 s, .slice A l.length c]] w fun e w' => e = .returned (.bool (V s l)) ∧ Below w.heap.size w w' := by
  obtain ⟨k, h⟩ := F.vp s l
  exact plug_Valid.calls k s A c l _ w hr.1 hr.2 h
theorem c29 (s : Int) (A : Option Addr) (c : Nat) (l : List T) (w : World) (hr : Rd k68 w A c l) : Calls Try.prog 29 #[.agg #[.int .i64 s, .slice A l.length c]] w fun e w' => e = .returned (.bool (V s l)) ∧ Below w.heap.size w w' := by
  obtain ⟨k, h⟩ := F.vr s l
  exact soundserviceref33_Valid.calls k s A c l _ w hr.1 hr.2 h
theorem c30 (s : Int) (A : Option Addr) (c : Nat) (l : List T) (i a : Int) (w : World) (hr : Rd k68 w A c l) : Calls Try.prog 30 #[.agg #[.int .i64 s, .slice A l.length c], .int .u64 i, .int .i64 a] w fun e w' => ∃ (A1 : Option Addr) (c1 : Nat), e = .returned (.tuple #[.agg #[.int .i64 (P s l i a).1, .slice A1 (P s l i a).2.1.length c1], .int .i64 (P s l i a).2.2]) ∧ Rd k68 w' A1 c1 (P s l i a).2.1 ∧ Below w.heap.size w w' := by
  obtain ⟨k, h⟩ := F.pp s l i a
  refine (plug_Plug.calls k s A c l i a _ _ _ w hr.1 hr.2 h).mono ?_
  rintro e w' ⟨v, rfl, ho, hb⟩
  obtain ⟨A1, c1, rfl, h1⟩ := Rd.of ho
  exact ⟨A1, c1, rfl, h1, hb⟩
theorem c31 (s : Int) (A : Option Addr) (c : Nat) (l : List T) (i a : Int) (w : World) (hr : Rd k68 w A c l) : Calls Try.prog 31 #[.agg #[.int .i64 s, .slice A l.length c], .int .u64 i, .int .i64 a] w fun e w' => ∃ (A1 : Option Addr) (c1 : Nat), e = .returned (.tuple #[.agg #[.int .i64 (P s l i a).1, .slice A1 (P s l i a).2.1.length c1], .int .i64 (P s l i a).2.2]) ∧ Rd k68 w' A1 c1 (P s l i a).2.1 ∧ Below w.heap.size w w' := by
  obtain ⟨k, h⟩ := F.pr s l i a
  refine (soundserviceref33_Plug.calls k s A c l i a _ _ _ w hr.1 hr.2 h).mono ?_
  rintro e w' ⟨v, rfl, ho, hb⟩
  obtain ⟨A1, c1, rfl, h1⟩ := Rd.of ho
  exact ⟨A1, c1, rfl, h1, hb⟩
theorem c32 (s : Int) (A : Option Addr) (c : Nat) (l : List T) (i : Int) (w : World) (hr : Rd k68 w A c l) : Calls Try.prog 32 #[.agg #[.int .i64 s, .slice A l.length c], .int .u64 i] w fun e w' => ∃ (A1 : Option Addr) (c1 : Nat), e = .returned (.tuple #[.agg #[.int .i64 (U s l i).1, .slice A1 (U s l i).2.1.length c1], .int .i64 (U s l i).2.2]) ∧ Rd k68 w' A1 c1 (U s l i).2.1 ∧ Below w.heap.size w w' := by
  obtain ⟨k, h⟩ := F.up s l i
  refine (plug_Unplug.calls k s A c l i _ _ _ w hr.1 hr.2 h).mono ?_
  rintro e w' ⟨v, rfl, ho, hb⟩
  obtain ⟨A1, c1, rfl, h1⟩ := Rd.of ho
  exact ⟨A1, c1, rfl, h1, hb⟩
theorem c33 (s : Int) (A : Option Addr) (c : Nat) (l : List T) (i : Int) (w : World) (hr : Rd k68 w A c l) : Calls Try.prog 33 #[.agg #[.int .i64 s, .slice A l.length c], .int .u64 i] w fun e w' => ∃ (A1 : Option Addr) (c1 : Nat), e = .returned (.tuple #[.agg #[.int .i64 (U s l i).1, .slice A1 (U s l i).2.1.length c1], .int .i64 (U s l i).2.2]) ∧ Rd k68 w' A1 c1 (U s l i).2.1 ∧ Below w.heap.size w w' := by
  obtain ⟨k, h⟩ := F.ur s l i
  refine (soundserviceref33_Unplug.calls k s A c l i _ _ _ w hr.1 hr.2 h).mono ?_
  rintro e w' ⟨v, rfl, ho, hb⟩
  obtain ⟨A1, c1, rfl, h1⟩ := Rd.of ho
  exact ⟨A1, c1, rfl, h1, hb⟩
theorem c34 (s : Int) (A A1 : Option Addr) (c c1 : Nat) (l : List T) (hl : l.length ≤ 4611686018427387904) (w : World) (hr : Rd k68 w A c l) (hr1 : Rd k68 w A1 c1 l) : Calls Try.prog 34 #[.agg #[.int .i64 s, .slice A l.length c], .agg #[.int .i64 s, .slice A1 l.length c1]] w fun e w' => e = .returned (.bool true) ∧ Below w.heap.size w w' := by
  obtain ⟨k, h⟩ := F.ss s l hl
  exact soundserviceref33_Same.calls k s A c l s A1 c1 l _ w hr.1 hr.2 hr1.1 hr1.2 h
theorem c35 (A A1 : Option Addr) (c c1 : Nat) (l : List Int) (hl : l.length ≤ 4611686018427387904) (w : World) (hr : Rd (Kd.int .u64) w A c l) (hr1 : Rd (Kd.int .u64) w A1 c1 l) : Calls Try.prog 35 #[.slice A l.length c, .slice A1 l.length c1] w fun e w' => e = .returned (.bool true) ∧ Drawn0 w w' := by
  obtain ⟨k, h⟩ := F.st l hl
  exact soundservicelaw33_same.calls k A c l A1 c1 l _ w hr.1 hr.2 hr1.1 hr1.2 h
theorem c36 (s : Int) (A : Option Addr) (c : Nat) (l : List T) (a : Int) (w : World) (hr : Rd k68 w A c l) : Calls Try.prog 36 #[.agg #[.int .i64 s, .slice A l.length c], .int .i64 a] w fun e w' => ∃ (A1 : Option Addr) (c1 : Nat), e = .returned (.slice A1 (D s l a).length c1) ∧ Rd (Kd.int .u64) w' A1 c1 (D s l a) ∧ Below w.heap.size w w' := by
  obtain ⟨k, h⟩ := F.dp s l a
  refine (plug_Ready.calls k s A c l a _ w hr.1 hr.2 h).mono ?_
  rintro e w' ⟨v, rfl, ho, hb⟩
  obtain ⟨A1, c1, rfl, h1⟩ := Rd.of ho
  exact ⟨A1, c1, rfl, h1, hb⟩
theorem c37 (s : Int) (A : Option Addr) (c : Nat) (l : List T) (a : Int) (w : World) (hr : Rd k68 w A c l) : Calls Try.prog 37 #[.agg #[.int .i64 s, .slice A l.length c], .int .i64 a] w fun e w' => ∃ (A1 : Option Addr) (c1 : Nat), e = .returned (.slice A1 (D s l a).length c1) ∧ Rd (Kd.int .u64) w' A1 c1 (D s l a) ∧ Below w.heap.size w w' := by
  obtain ⟨k, h⟩ := F.dr s l a
  refine (soundserviceref33_Ready.calls k s A c l a _ w hr.1 hr.2 h).mono ?_
  rintro e w' ⟨v, rfl, ho, hb⟩
  obtain ⟨A1, c1, rfl, h1⟩ := Rd.of ho
  exact ⟨A1, c1, rfl, h1, hb⟩
end
end Go.Proofs.Ytobcpkeapjflhaa.ComesW
