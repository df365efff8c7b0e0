/- Arguments of a law as they are read: slices of bytes, slices of structs. -/
import Derived.Test.YtpacadeldhcckaaDA
import Derived.WalkKit
import Derived.ProofKit
import Derived.OpenShut
import Derived.ChangeOld
import Derived.Below
import Derived.Deep.Slices
import Derived.Deep.Strs
namespace Go.Proofs.Ytpacadeldhcckaa.Dc
open Go.ChangeShapes Go.WideShapes Go.ChangeAt Go.RowKit Go.Deep
open Go.Proofs.YtpacadeldhcckaaW.PrintWords
set_option linter.unusedVariables false

/-- A call on a clock, as the law's list has it. -/
structure Op3 where
  f0 : Int
  f1 : Int
  f2 : Int
def z3 : Op3 := ⟨0, 0, 0⟩
def k3 : Kd Op3 := Kd.iso (Kd.pair (Kd.int .i64) (Kd.pair (Kd.int .i64) (Kd.int .i64))) (fun x : Op3 => (x.f0, x.f1, x.f2))
theorem k3_open {w : World} {x : Op3} {cs : List Value} (h : k3.K w x cs) : cs = [.int .i64 x.f0, .int .i64 x.f1, .int .i64 x.f2] := by
  obtain ⟨_, _, rfl, rfl, ⟨_, _, rfl, rfl, rfl⟩⟩ := h
  exact rfl
theorem k3_mk (w : World) (x : Op3) : k3.K w x [.int .i64 x.f0, .int .i64 x.f1, .int .i64 x.f2] := ⟨[.int .i64 x.f0], [.int .i64 x.f1, .int .i64 x.f2], rfl, rfl, ⟨[.int .i64 x.f1], [.int .i64 x.f2], rfl, rfl, rfl⟩⟩
theorem k3_mkM (w : World) (base : Nat) (ok : Nat → Prop) (x : Op3) : k3.M w base ok x [.int .i64 x.f0, .int .i64 x.f1, .int .i64 x.f2] := ⟨[.int .i64 x.f0], [.int .i64 x.f1, .int .i64 x.f2], rfl, rfl, ⟨[.int .i64 x.f1], [.int .i64 x.f2], rfl, rfl, rfl⟩⟩
def rd3 (xs : List Op3) (i : Int) : Op3 := xs.getD i.toNat z3
theorem at3 {w : World} {A : Option Addr} {n : Nat} {xs : List Op3} (h : Kd.C k3 w A n xs) (i : Int) (h0 : 0 ≤ i) (h1 : i < n) : ∃ ad, A = some ad ∧ w.cell? (ad.add (i.toNat * 3)) = some (.int .i64 (rd3 xs i).f0) ∧ w.cell? ⟨(ad.add (i.toNat * 3)).block, (ad.add (i.toNat * 3)).off + 1, none⟩ = some (.int .i64 (rd3 xs i).f1) ∧ w.cell? ⟨(ad.add (i.toNat * 3)).block, (ad.add (i.toNat * 3)).off + 2, none⟩ = some (.int .i64 (rd3 xs i).f2) := by
  obtain ⟨ad, c, e, _, hK, hc0⟩ := Kd.C_get h z3 i h0 h1
  have hc : ∀ j u, c[j]? = some u → w.cell? (ad.add (i.toNat * 3 + j)) = some u := hc0
  obtain rfl := k3_open hK
  exact ⟨ad, e, hc 0 _ rfl, by rw [← add_field _ _ 1 (by omega)]; exact hc 1 _ rfl, by rw [← add_field _ _ 2 (by omega)]; exact hc 2 _ rfl⟩
/-- A slice whose elements are read as d's. -/
theorem opens_slice {α : Type} {H : Type} {enc : TypeId × Value → H} {P : Program} {w : World} {base : Nat} {spare : Nat → Bool} {held : Bool} {t e : TypeId} (d : Kd α) (Qp : α → Prop) (ht : P.underlying t = some (.slice e)) (hsz : P.cellsOf e = d.sz)
    (hO : ∀ n cs x, DataW.trod enc P w base spare held n e cs = some x → ∃ p, d.K w p cs ∧ Qp p) {fuel : Nat} {cs : List Value} {x : DataW H × List MemPlace} (h : DataW.trod enc P w base spare held fuel t cs = some x) :
    ∃ (A : Option Addr) (cap : Nat) (l : List α), cs = [.slice A l.length cap] ∧ l.length ≤ cap ∧ cap ≤ maxLen ∧ d.C w A l.length l ∧ ∀ p ∈ l, Qp p := by
  rcases open_slice ht h with ⟨rfl, _⟩ | ⟨a, len, cap, m, n, D, Pl, rfl, hb, hl, hm, hmm, rfl, hx⟩
  · exact ⟨none, 0, [], rfl, Nat.le_refl _, by simp [maxLen], ⟨rfl, by simp, fun h => absurd h (by simp)⟩, by simp⟩
  · have hlm : len ≤ m := by rw [hmm]; split <;> omega
    have hp : ∀ i, i < len → ∃ p cs', w.cells? base (a.add (i * P.cellsOf e)) (P.cellsOf e) = some cs' ∧ d.K w p cs' ∧ Qp p := fun i hi => by
      obtain ⟨cs', h1, h2⟩ := hx i (by omega)
      obtain ⟨p, h3, h4⟩ := hO _ _ _ h2
      exact ⟨p, cs', h1, h3, h4⟩
    have hl2 : ∃ l : List α, l.length = len ∧ ∀ i p, l[i]? = some p → ∃ cs', w.cells? base (a.add (i * P.cellsOf e)) (P.cellsOf e) = some cs' ∧ d.K w p cs' ∧ Qp p := by
      clear hmm hlm hx hl h
      induction len with
      | zero => exact ⟨[], rfl, by simp⟩
      | succ len ih =>
        obtain ⟨l, h1, h2⟩ := ih (fun i hi => hp i (by omega))
        obtain ⟨p, cs', h3⟩ := hp len (by omega)
        refine ⟨l ++ [p], by simp [h1], fun i q hq => ?_⟩
        rcases Nat.lt_or_ge i l.length with hi | hi
        · rw [List.getElem?_append_left hi] at hq
          exact h2 i q hq
        · rw [List.getElem?_append_right hi] at hq
          have h0 : i - l.length = 0 := by
            rcases Nat.eq_zero_or_pos (i - l.length) with h | h
            · exact h
            · rw [List.getElem?_eq_none (by simp; omega)] at hq
              cases hq
          rw [h0] at hq
          simp at hq
          subst hq
          rw [show i = len by omega]
          exact ⟨cs', h3⟩
    obtain ⟨l, hll, hl3⟩ := hl2
    subst hll
    refine ⟨some a, cap, l, rfl, hl, hm, ⟨rfl, by simp only [maxLen] at hm; omega, fun _ => ⟨a, rfl, fun j p hj => ?_⟩⟩, fun p hp' => ?_⟩
    · obtain ⟨cs', h1, h2, _⟩ := hl3 j p hj
      refine ⟨cs', d.K_len h2, h2, fun i u hu => ?_⟩
      obtain ⟨_, _, h4⟩ := World.cells?_some h1
      have hi : i < cs'.length := (List.getElem?_eq_some_iff.1 hu).1
      have := h4 i (by rw [d.K_len h2] at hi; rw [hsz]; exact hi)
      rw [← hsz, ← Go.Proofs.YtpacadeldhcckaaW.PrintWords.add_add]
      rw [this]
      exact hu
    · obtain ⟨i, hi⟩ := List.mem_iff_getElem?.1 hp'
      obtain ⟨cs', _, _, h5⟩ := hl3 i p hi
      exact h5

theorem cells5 : Try.prog.cellsOf 5 = 1 := by kernel_rfl
theorem arg_bytes {H : Type} {enc : TypeId × Value → H} {w : World} {base : Nat} {spare : Nat → Bool} {held : Bool} {v : Value} {d : DataW H} {ps : List MemPlace} (hv : ∃ a n c, v = .slice a n c) (h : DataW.Trod enc Try.prog w base spare held 44 v d ps) :
    ∃ (A : Option Addr) (cap : Nat) (l : List Int), v = .slice A l.length cap ∧ Kd.C (Kd.int .u8) w A l.length l ∧ ∀ p ∈ l, 0 ≤ p ∧ p < 256 := by
  obtain ⟨a, m, c, rfl⟩ := hv
  obtain ⟨fuel, hf⟩ := h
  obtain ⟨A, cap, l, he, _, _, hC, hQ⟩ := opens_slice (Kd.int .u8) (fun n => 0 ≤ n ∧ n < 256) Try.underlying44 cells5 (fun n cs x h => by
    obtain ⟨a, e, _, b⟩ := DataW.trod_int Try.underlying5 h
    have := bounds_u8 b
    exact ⟨a, e, by omega, by omega⟩) hf
  simp [Value.cells] at he
  obtain ⟨rfl, rfl, rfl⟩ := he
  exact ⟨a, c, l, rfl, hC, hQ⟩
theorem cells36 : Try.prog.cellsOf 36 = 3 := by kernel_rfl
theorem cells3 : Try.prog.cellsOf 3 = 1 := by kernel_rfl
def Q3 (p : Op3) : Prop := In64 p.f0 ∧ In64 p.f1 ∧ In64 p.f2
theorem open36 {H : Type} {enc : TypeId × Value → H} {w : World} {base : Nat} {spare : Nat → Bool} {held : Bool} (n : Nat) (cs : List Value) (x : DataW H × List MemPlace) (h : DataW.trod enc Try.prog w base spare held n 36 cs = some x) :
    ∃ p : Op3, k3.K w p cs ∧ Q3 p := by
  obtain ⟨y0, y1, y2, m, rfl, hl, h0, h1, h2⟩ := trod_struct3 Try.underlying36 h
  rw [cells36] at hl
  obtain ⟨c0, c1, c2, rfl⟩ : ∃ c0 c1 c2, cs = [c0, c1, c2] := by
    rcases cs with _ | ⟨c0, _ | ⟨c1, _ | ⟨c2, _ | ⟨c3, r⟩⟩⟩⟩
    · simp at hl
    · simp at hl
    · simp at hl
    · exact ⟨c0, c1, c2, rfl⟩
    · simp at hl
  rw [cells3] at h0 h1 h2
  obtain ⟨a0, e0, _, b0⟩ := DataW.trod_int Try.underlying3 h0
  obtain ⟨a1, e1, _, b1⟩ := DataW.trod_int Try.underlying3 h1
  obtain ⟨a2, e2, _, b2⟩ := DataW.trod_int Try.underlying3 h2
  simp at e0 e1 e2
  subst e0 e1 e2
  exact ⟨⟨a0, a1, a2⟩, k3_mk w ⟨a0, a1, a2⟩, bounds_i64 b0, bounds_i64 b1, bounds_i64 b2⟩
theorem arg_ops {H : Type} {enc : TypeId × Value → H} {w : World} {base : Nat} {spare : Nat → Bool} {held : Bool} {v : Value} {d : DataW H} {ps : List MemPlace} (hv : ∃ a n c, v = .slice a n c) (h : DataW.Trod enc Try.prog w base spare held 34 v d ps) :
    ∃ (A : Option Addr) (cap : Nat) (l : List Op3), v = .slice A l.length cap ∧ Kd.C k3 w A l.length l ∧ ∀ p ∈ l, Q3 p := by
  obtain ⟨a, m, c, rfl⟩ := hv
  obtain ⟨fuel, hf⟩ := h
  obtain ⟨A, cap, l, he, _, _, hC, hQ⟩ := opens_slice k3 Q3 Try.underlying34 cells36 (fun n cs x h => open36 n cs x h) hf
  simp [Value.cells] at he
  obtain ⟨rfl, rfl, rfl⟩ := he
  exact ⟨a, c, l, rfl, hC, hQ⟩
end Go.Proofs.Ytpacadeldhcckaa.Dc
